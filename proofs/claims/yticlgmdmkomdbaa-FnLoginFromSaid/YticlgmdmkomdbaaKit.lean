/-
  The closed facts about the whole program that every statement's last step asks, each proved once; those that speak of the translation's head go by its first three words alone. Conditions: none.
-/
import Derived.Test.YticlgmdmkomdbaaRows
import Derived.Test.YticlgmdmkomdbaaBase
import Derived.OpenShut
import Derived.ShutString
import Derived.ChangeOld
namespace Go.Proofs.Yticlgmdmkomdbaa
open Go.ChangeShapes Go.WideShapes Go.ChangeAt Go.RowKit

theorem Try.own : ownKnob Try.prog.godebug = none := by kernel_rfl
theorem Try.laidOut : laidOutB Try.prog = true := by kernel_rfl

/-- The head's beginning, and the rest. -/
def headPre : List Char := List.map Char.ofNat [104, 97, 114, 110, 101, 115, 115, 32, 54, 56, 50, 51, 48, 56, 98, 99, 55, 99, 51, 57, 56, 57, 54, 49, 48, 56, 98, 48, 55, 50, 48, 55, 50, 52, 51, 99, 54, 100, 99, 57, 52, 97, 98, 50, 56, 56, 99, 101, 53, 101, 50, 102, 55, 51, 54, 49, 55, 52, 48, 98, 98, 49, 99, 49, 56, 52, 53, 101, 97, 55, 97, 99, 32, 99, 117, 116, 32]
def headRest : List Char := List.map Char.ofNat [97, 116, 32, 108, 111, 111, 112, 46, 101, 120, 97, 109, 112, 108, 101, 47, 112, 114, 111, 120, 121, 102, 114, 97, 109, 101, 115, 47, 108, 97, 119, 115, 46, 70, 110, 69, 120, 97, 99, 116, 76, 111, 103, 105, 110, 82, 101, 112, 108, 121, 32, 108, 111, 111, 112, 46, 101, 120, 97, 109, 112, 108, 101, 47, 112, 114, 111, 120, 121, 102, 114, 97, 109, 101, 115, 47, 108, 97, 119, 115, 46, 70, 110, 76, 111, 103, 105, 110, 82, 101, 112, 108, 121, 32, 108, 111, 111, 112, 46, 101, 120, 97, 109, 112, 108, 101, 47, 112, 114, 111, 120, 121, 102, 114, 97, 109, 101, 115, 47, 108, 97, 119, 115, 46, 70, 110, 76, 111, 103, 105, 110, 70, 105, 116, 115, 77, 111, 114, 101, 32, 108, 111, 111, 112, 46, 101, 120, 97, 109, 112, 108, 101, 47, 112, 114, 111, 120, 121, 102, 114, 97, 109, 101, 115, 47, 108, 97, 119, 115, 46, 70, 110, 72, 101, 108, 108, 111, 80, 105, 99, 107, 32, 108, 111, 111, 112, 46, 101, 120, 97, 109, 112, 108, 101, 47, 112, 114, 111, 120, 121, 102, 114, 97, 109, 101, 115, 47, 108, 97, 119, 115, 46, 70, 110, 72, 101, 108, 108, 111, 80, 105, 99, 107, 83, 101, 108, 102, 32, 108, 111, 111, 112, 46, 101, 120, 97, 109, 112, 108, 101, 47, 112, 114, 111, 120, 121, 102, 114, 97, 109, 101, 115, 47, 108, 97, 119, 115, 46, 70, 110, 80, 105, 99, 107, 32, 108, 111, 111, 112, 46, 101, 120, 97, 109, 112, 108, 101, 47, 112, 114, 111, 120, 121, 102, 114, 97, 109, 101, 115, 47, 108, 97, 119, 115, 46, 70, 110, 69, 120, 97, 99, 116, 76, 111, 103, 105, 110, 70, 105, 116, 115, 32, 108, 111, 111, 112, 46, 101, 120, 97, 109, 112, 108, 101, 47, 112, 114, 111, 120, 121, 102, 114, 97, 109, 101, 115, 47, 108, 97, 119, 115, 46, 70, 110, 72, 101, 108, 108, 111, 80, 105, 99, 107, 78, 111, 32, 108, 111, 111, 112, 46, 101, 120, 97, 109, 112, 108, 101, 47, 112, 114, 111, 120, 121, 102, 114, 97, 109, 101, 115, 47, 108, 97, 119, 115, 46, 70, 110, 76, 111, 103, 105, 110, 83, 105, 122, 101, 32, 108, 111, 111, 112, 46, 101, 120, 97, 109, 112, 108, 101, 47, 112, 114, 111, 120, 121, 102, 114, 97, 109, 101, 115, 47, 108, 97, 119, 115, 46, 70, 110, 69, 120, 97, 99, 116, 76, 111, 103, 105, 110, 66, 121, 116, 101, 115, 32, 108, 111, 111, 112, 46, 101, 120, 97, 109, 112, 108, 101, 47, 112, 114, 111, 120, 121, 102, 114, 97, 109, 101, 115, 47, 108, 97, 119, 115, 46, 70, 110, 76, 111, 103, 105, 110, 70, 105, 116, 115, 32, 108, 111, 111, 112, 46, 101, 120, 97, 109, 112, 108, 101, 47, 112, 114, 111, 120, 121, 102, 114, 97, 109, 101, 115, 47, 108, 97, 119, 115, 46, 70, 110, 69, 120, 97, 99, 116, 72, 101, 108, 108, 111, 70, 114, 111, 109, 32, 108, 111, 111, 112, 46, 101, 120, 97, 109, 112, 108, 101, 47, 112, 114, 111, 120, 121, 102, 114, 97, 109, 101, 115, 47, 108, 97, 119, 115, 46, 70, 110, 80, 105, 99, 107, 70, 114, 111, 109, 32, 108, 111, 111, 112, 46, 101, 120, 97, 109, 112, 108, 101, 47, 112, 114, 111, 120, 121, 102, 114, 97, 109, 101, 115, 47, 108, 97, 119, 115, 46, 70, 110, 72, 101, 108, 108, 111, 32, 108, 111, 111, 112, 46, 101, 120, 97, 109, 112, 108, 101, 47, 112, 114, 111, 120, 121, 102, 114, 97, 109, 101, 115, 47, 108, 97, 119, 115, 46, 70, 110, 72, 101, 108, 108, 111, 67, 117, 116, 32, 108, 111, 111, 112, 46, 101, 120, 97, 109, 112, 108, 101, 47, 112, 114, 111, 120, 121, 102, 114, 97, 109, 101, 115, 47, 108, 97, 119, 115, 46, 70, 110, 69, 120, 97, 99, 116, 76, 111, 103, 105, 110, 70, 114, 111, 109, 32, 108, 111, 111, 112, 46, 101, 120, 97, 109, 112, 108, 101, 47, 112, 114, 111, 120, 121, 102, 114, 97, 109, 101, 115, 47, 108, 97, 119, 115, 46, 70, 110, 76, 111, 103, 105, 110, 32, 108, 111, 111, 112, 46, 101, 120, 97, 109, 112, 108, 101, 47, 112, 114, 111, 120, 121, 102, 114, 97, 109, 101, 115, 47, 108, 97, 119, 115, 46, 70, 110, 76, 111, 103, 105, 110, 67, 117, 116, 32, 108, 111, 111, 112, 46, 101, 120, 97, 109, 112, 108, 101, 47, 112, 114, 111, 120, 121, 102, 114, 97, 109, 101, 115, 47, 108, 97, 119, 115, 46, 70, 110, 76, 111, 103, 105, 110, 86, 101, 114, 115, 105, 111, 110, 32, 108, 111, 111, 112, 46, 101, 120, 97, 109, 112, 108, 101, 47, 112, 114, 111, 120, 121, 102, 114, 97, 109, 101, 115, 47, 108, 97, 119, 115, 46, 70, 110, 72, 101, 108, 108, 111, 70, 114, 111, 109, 32, 108, 111, 111, 112, 46, 101, 120, 97, 109, 112, 108, 101, 47, 112, 114, 111, 120, 121, 102, 114, 97, 109, 101, 115, 47, 108, 97, 119, 115, 46, 70, 110, 76, 111, 103, 105, 110, 70, 114, 111, 109]
theorem head_order : Try.prog.initOrder = String.ofList (headPre ++ headRest) := by kernel_rfl
theorem head_chars : Try.prog.initOrder.toList = headPre ++ headRest := by rw [head_order]; exact String.toList_ofList
def cutWord : List Char := List.map Char.ofNat [99, 117, 116]
theorem head_words (r : List Char) : behindMainWord (wordsSigns (headPre ++ r)) = cutWord :: wordsSigns r := by kernel_rfl
theorem head_is : behindMainWord (wordsSigns Try.prog.initOrder.toList) = cutWord :: wordsSigns headRest := by rw [head_chars]; exact head_words headRest
theorem strip_cut (R : List (List Char)) : stripLifts liftWords (cutWord :: R) = ([], cutWord :: R) := by kernel_rfl
theorem cut_is : cutWord = "cut".toList := by kernel_rfl
theorem enter_of (P : Program) (R : List (List Char)) (h : behindMainWord (wordsSigns P.initOrder.toList) = cutWord :: R) (h1 : P.laysLater = false) (h2 : P.bearsReflect = false) (h3 : P.doorFits [] = true) : P.mayEnter = true := by
  unfold Program.mayEnter
  rw [h]
  simp only [strip_cut, h1, h2, h3]
  simp
  right
  exact cut_is
theorem lift_of (P : Program) (R : List (List Char)) (h : behindMainWord (wordsSigns P.initOrder.toList) = cutWord :: R) : P.liftsFinal = false := by
  unfold Program.liftsFinal Program.headLifts
  simp only [h, strip_cut]
  kernel_rfl
theorem make_of (P : Program) (R : List (List Char)) (h : behindMainWord (wordsSigns P.initOrder.toList) = cutWord :: R) : P.make = some .cut := by
  unfold Program.make
  rw [h]
  kernel_rfl
theorem band {a b : Bool} (ha : a = true) (hb : b = true) : (a && b) = true := by rw [ha, hb]; rfl
theorem kEnter : Try.prog.mayEnter = true := enter_of _ _ head_is (by as_aux_lemma => kernel_rfl) (by as_aux_lemma => kernel_rfl) (by as_aux_lemma => kernel_rfl)
theorem kLift : Try.prog.liftsFinal = false := lift_of _ _ head_is
theorem kMake : Try.prog.make = some .cut := make_of _ _ head_is
theorem kMaps : mapsRowed Try.prog = true := by kernel_rfl
theorem kStops : (Try.prog.stops == []) = true := by kernel_rfl
theorem kKnobs : (Try.prog.stopKnobs == []) = true := by kernel_rfl
theorem kPlain : Try.prog.plainKeys = true := by kernel_rfl
theorem kHeard : Try.prog.stopsHeard = true := by kernel_rfl
theorem eqPlain {c : OpenClaim} (h : c.plainKeys = true) : (c.plainKeys == Try.prog.plainKeys) = true := by rw [kPlain, h]; rfl
theorem eqLift {c : OpenClaim} (h : c.lifted = false) : (c.lifted == Try.prog.liftsFinal) = true := by rw [kLift, h]; rfl
theorem eqMake {c : OpenClaim} (h : c.make = .cut) : (Try.prog.make == some c.make) = true := by rw [kMake, h]; rfl
end Go.Proofs.Yticlgmdmkomdbaa

/-
  What a call leaves that returns a list of bytes and whether it is there. Conditions: none.
-/
import Derived.Test.YtolbkdcnmkmncaaDoorAppend
namespace Go.Proofs.YtolbkdcnmkmncaaDoor
open Go.RowKit

/-- A list of bytes that may fail: the slice, and whether it is there. -/
def Gave (w : World) (zs : List Int) (ok : Bool) (e : Ending) (w' : World) : Prop :=
  ∃ v, e = .returned (.tuple #[v, .bool ok]) ∧ Own w' w.heap.size v zs ∧ Below w.heap.size w w'
end Go.Proofs.YtolbkdcnmkmncaaDoor

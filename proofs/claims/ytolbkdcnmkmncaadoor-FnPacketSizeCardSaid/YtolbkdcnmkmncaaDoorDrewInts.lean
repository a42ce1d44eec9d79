/-
  What a draw of a list of integers leaves. Conditions: none.
-/
import Derived.Test.YtolbkdcnmkmncaaDoorPick
namespace Go.Proofs.YtolbkdcnmkmncaaDoor
open Go.RowKit

/-- Behind a draw of a list of integers: the list, its length's bound, the reader's new place. -/
def DrewInts (w : World) (hi g p m q : Nat) (e : Ending) (w' : World) : Prop :=
  ∃ v zs p', e = .returned v ∧ Own w' w.heap.size v zs ∧ zs.length ≤ m ∧ p' ≤ p + q ∧ Rd6 w' hi g p' ∧ w.grownBy w' (some g)
def DrewInt (w : World) (e : Ending) (w' : World) : Prop := ∃ y : Int, e = .returned (.int .i64 y) ∧ Below w.heap.size w w'
def DrewOne (w : World) (e : Ending) (w' : World) : Prop := ∃ v zs, e = .returned v ∧ Ints w' 0 v zs ∧ zs.length ≤ 2000 ∧ Below w.heap.size w w'
end Go.Proofs.YtolbkdcnmkmncaaDoor

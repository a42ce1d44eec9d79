/-
  The library's slices.Grow at nil and slices.Concat at integers: one list out of several, in memory of the call's own. Conditions: the lists together have at most 2^40 numbers.
-/
import Derived.Test.YtpcflkdeoafpeaaDoorReader
import Derived.Lib.AppendZerosOnto
import Derived.Lib.SliceRun
namespace Go.Proofs.YtpcflkdeoafpeaaDoor
open Go.RowKit

/-- A slice of slices of integers. -/
def Rows2 (w : World) (v : Value) (zss : List (List Int)) : Prop :=
  ∃ vs : List Value, Sl w 25 1 0 v zss.length vs ∧ ∀ j, j < zss.length → ∃ u, vs[j]? = some u ∧ Ints w 0 u (zss.getD j [])
theorem flat_succ {zss : List (List Int)} {k : Nat} (h : k < zss.length) : (zss.take (k + 1)).flatten = (zss.take k).flatten ++ zss.getD k [] := by
  rw [List.take_succ_eq_append_getElem h, List.flatten_append]
  simp [List.getD, h]
theorem flat_le (zss : List (List Int)) (k : Nat) : (zss.take k).flatten.length ≤ zss.flatten.length := by
  have h : zss.flatten = (zss.take k).flatten ++ (zss.drop k).flatten := by rw [← List.flatten_append, List.take_append_drop]
  rw [h, List.length_append]
  omega

/-- How many numbers the first k lists have together. -/
def flatN (zss : List (List Int)) (k : Nat) : Nat := (zss.take k).flatten.length
theorem flatN_succ {zss : List (List Int)} {k : Nat} (h : k < zss.length) : flatN zss (k + 1) = flatN zss k + (zss.getD k []).length := by
  unfold flatN
  rw [flat_succ h, List.length_append]
theorem flatN_le (zss : List (List Int)) (k : Nat) : flatN zss k ≤ zss.flatten.length := flat_le zss k

end Go.Proofs.YtpcflkdeoafpeaaDoor

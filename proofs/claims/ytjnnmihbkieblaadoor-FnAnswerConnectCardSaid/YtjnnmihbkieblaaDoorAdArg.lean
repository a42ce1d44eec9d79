/-
  An address, and a request, that came in as an argument: the cells. Conditions: none.
  A request and a packet that came in as an argument: the cells. Conditions: none.
-/
import Derived.Test.YtjnnmihbkieblaaDoorKit
import Derived.Test.YtjnnmihbkieblaaDoorBlk
import Derived.Test.YtjnnmihbkieblaaDoorAppend
import Derived.Lib.SmallJoins
namespace Go.Proofs.YtjnnmihbkieblaaDoor
open Go.ChangeShapes Go.WideShapes Go.ChangeAt Go.RowKit Go.Joins

theorem Tryd.cellsInt : Tryd.prog.cellsOf 3 = 1 := by kernel_rfl
theorem Tryd.cellsStr : Tryd.prog.cellsOf 9 = 1 := by kernel_rfl
theorem Tryd.cellsInts : Tryd.prog.cellsOf 25 = 1 := by kernel_rfl
section
variable {H : Type} {enc : TypeId × Value → H} {W : World}
set_option maxRecDepth 100000 in
/-- A slice of integers that came in, out of its one cell. -/
theorem ints_cell {n : Nat} {cs : List Value} {y : DataW H × List MemPlace} (h : DataW.trod enc Tryd.prog W 0 (fun _ => true) true n 25 cs = some y) : ∃ v zs, cs = [v] ∧ Came .i64 W W.heap.size v zs := by
  rcases open_ints Tryd.underlying25 Tryd.underlying3 (by kernel_rfl) h with ⟨hcs, _⟩ | ⟨x, l, c, zs, hcs, _, hl, hm, hz, _, hcell, hwz⟩
  · exact ⟨_, [], hcs, none, 0, rfl, Nat.le_refl _, by omega, by simp, .inl rfl⟩
  · exact ⟨_, _, hcs, (Came.of_row (.inr ⟨x, rfl, hl, hm, by simpa using hz, hcell, hwz⟩)).1⟩
end
end Go.Proofs.YtjnnmihbkieblaaDoor

/-
  An address, and a request, that came in as an argument: the cells. Conditions: none.
  A request and a packet that came in as an argument: the cells. Conditions: none.
-/
import Derived.Test.YtjnnmihbkieblaaGreatDoorKit
import Derived.Test.YtjnnmihbkieblaaGreatDoorBlk
import Derived.Test.YtjnnmihbkieblaaGreatDoorAppend
import Derived.Lib.SmallJoins
namespace Go.Proofs.YtjnnmihbkieblaaGreatDoor
open Go.ChangeShapes Go.WideShapes Go.ChangeAt Go.RowKit Go.Joins

theorem Tryz.cellsInt : Tryz.prog.cellsOf 3 = 1 := by kernel_rfl
theorem Tryz.cellsStr : Tryz.prog.cellsOf 9 = 1 := by kernel_rfl
theorem Tryz.cellsInts : Tryz.prog.cellsOf 23 = 1 := by kernel_rfl
section
variable {H : Type} {enc : TypeId × Value → H} {W : World}
set_option maxRecDepth 100000 in
/-- A slice of integers that came in, out of its one cell. -/
theorem ints_cell {n : Nat} {cs : List Value} {y : DataW H × List MemPlace} (h : DataW.trod enc Tryz.prog W 0 (fun _ => true) true n 23 cs = some y) : ∃ v zs, cs = [v] ∧ Came .i64 W W.heap.size v zs := by
  rcases open_ints Tryz.underlying23 Tryz.underlying3 (by kernel_rfl) h with ⟨hcs, _⟩ | ⟨x, l, c, zs, hcs, _, hl, hm, hz, _, hcell, hwz⟩
  · exact ⟨_, [], hcs, none, 0, rfl, Nat.le_refl _, by omega, by simp, .inl rfl⟩
  · exact ⟨_, _, hcs, (Came.of_row (.inr ⟨x, rfl, hl, hm, by simpa using hz, hcell, hwz⟩)).1⟩
end
end Go.Proofs.YtjnnmihbkieblaaGreatDoor

/-
  The program's reader of bytes: newReader, take: what they return is a plain function of the bytes, the place and whether it has failed. Conditions: a read asks for at most 1000 bytes.
-/
import Derived.Test.YtpcflkdeoafpeaaDoorRs
import Derived.Test.YtpcflkdeoafpeaaDoorAppend
import Derived.Laws.MakeOwn
import Derived.IntWalk
namespace Go.Proofs.YtpcflkdeoafpeaaDoor
open Go.RowKit

theorem made_zero (n : Nat) : madeCells #[Value.int .i64 0] n = (iv (List.replicate n 0)).toArray := by
  apply Array.toList_inj.1
  rw [toList_madeCells_one]
  simp [iv]
/-- 'make([]int, n)' -/
theorem mk_ints (n : Nat) (hn : n ≤ 1099511627776) (u : World) : (Instr.makeSlice 25 (.int .i64 (n : Int)) (.int .i64 (n : Int))).run Tryd.prog u = .ok (.slice (some ⟨u.heap.size, 0, none⟩) n n) (u.alloc (.cells (iv (List.replicate n 0)).toArray 3)) := by
  obtain ⟨i0, hi, hz0, hz1, hz2⟩ := info_parts int_info
  have h := run_make (P := Tryd.prog) u 25 3 i0 (.int .i64 0) Tryd.underlying25 hi hz0 .i64 .i64 (n : Int) (n : Int) (by omega) (Int.le_refl _) (by rw [hz2]; omega) (by omega)
  simp only [Int.toNat_natCast, hz1, Nat.mul_one] at h
  rw [← made_zero]
  exact h

end Go.Proofs.YtpcflkdeoafpeaaDoor

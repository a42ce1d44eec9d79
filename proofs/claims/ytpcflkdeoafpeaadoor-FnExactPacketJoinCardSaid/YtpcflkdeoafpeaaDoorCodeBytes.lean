/-
  ReplyBytes and RequestBytes of the program and of the reference return the same bytes, in memory of their own, or fail alike. Conditions: the quad reads as a list of integers, the name has fewer than 2^32 - 15 bytes.
  The reference's l12Bytes and ReplyBytes. Conditions: the quad reads as a list of integers, the name has fewer than 2^32 - 15 bytes.
-/
import Derived.Test.YtpcflkdeoafpeaaDoorAdBytes
import Derived.Test.YtpcflkdeoafpeaaDoorPk
namespace Go.Proofs.YtpcflkdeoafpeaaDoor
open Go.RowKit

def rpL (c k : Int) (qs : List Int) (nm : ByteArray) (p : Int) : List Int := if rpOk c k qs nm p = true then cdB c k qs nm p else []
def rqL (c k : Int) (qs : List Int) (nm : ByteArray) (p : Int) : List Int := if rqOk c k qs nm p = true then cdB c k qs nm p else []
theorem rpL_ok {c k : Int} {qs : List Int} {nm : ByteArray} {p : Int} (h : rpOk c k qs nm p = true) : rpL c k qs nm p = [5, c, 0] ++ adB k qs nm p := by simp [rpL, h, cdB]
theorem rpL_not {c k : Int} {qs : List Int} {nm : ByteArray} {p : Int} (h : rpOk c k qs nm p = false) : rpL c k qs nm p = [] := by simp [rpL, h]
theorem rqL_ok {c k : Int} {qs : List Int} {nm : ByteArray} {p : Int} (h : rqOk c k qs nm p = true) : rqL c k qs nm p = [5, c, 0] ++ adB k qs nm p := by simp [rqL, h, cdB]
theorem rqL_not {c k : Int} {qs : List Int} {nm : ByteArray} {p : Int} (h : rqOk c k qs nm p = false) : rqL c k qs nm p = [] := by simp [rqL, h]
theorem Own.lit_0 {W : World} {g base : Nat} (hg : g = W.heap.size) (hb : base ≤ W.heap.size) : Own (W.alloc (.cells #[] 3)) base (.slice (some ⟨g, 0, none⟩) 0 0) [] := by
  subst hg
  exact Own.lit W [] base hb (by simp)
theorem Own.lit_3 {W : World} {x y z : Int} {g base : Nat} (hg : g = W.heap.size) (hb : base ≤ W.heap.size) : Own (W.alloc (.cells #[.int .i64 x, .int .i64 y, .int .i64 z] 3)) base (.slice (some ⟨g, 0, none⟩) 3 3) [x, y, z] := by
  subst hg
  exact Own.lit W [x, y, z] base hb (by simp)

end Go.Proofs.YtpcflkdeoafpeaaDoor
namespace Go.Proofs.YtpcflkdeoafpeaaDoor
open Go.RowKit

end Go.Proofs.YtpcflkdeoafpeaaDoor

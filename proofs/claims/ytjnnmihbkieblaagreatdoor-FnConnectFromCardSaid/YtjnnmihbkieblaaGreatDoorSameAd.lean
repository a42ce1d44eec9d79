/-
  The laws' own sameAddress and sameRequest, at two addresses with the same parts. Conditions: the quads read as one list of integers.
-/
import Derived.Test.YtjnnmihbkieblaaGreatDoorRs
import Derived.Test.YtjnnmihbkieblaaGreatDoorBlk
namespace Go.Proofs.YtjnnmihbkieblaaGreatDoor
open Go.RowKit

set_option maxRecDepth 100000 in
set_option maxHeartbeats 2000000 in
theorem sameAddress_same (k : Int) (q q2 : Value) (nm : ByteArray) (p : Int) (qs : List Int) (w : World) (h1 : Ints w 0 q qs) (h2 : Ints w 0 q2 qs) :
    Calls Tryz.prog 11 #[.agg #[.int .i64 k, q, .string nm, .int .i64 p], .agg #[.int .i64 k, q2, .string nm, .int .i64 p]] w fun e w' => e = .returned (.bool true) ∧ Below w.heap.size w w' := by
  have H1 := Lib.hid h1
  have H2 := Lib.hid h2
  obtain ⟨A, c, rfl, hc, hm, _⟩ := h1.open_
  obtain ⟨A2, c2, rfl, hc2, hm2, _⟩ := h2.open_
  clear h1 h2
  go_enter Tryz.func11, Tryz.ntmps11
  go_wp2_with fail
  refine (sameBytes_any _ _ qs qs _ ((H1.out.alloc _).alloc _) ((H2.out.alloc _).alloc _)).mono ?_
  rintro e w1 ⟨rfl, n1, rfl⟩
  rw [decide_eq_true rfl]
  go_wp2_with fail
  go_ret
  exact ⟨rfl, below_drewN (((Below.refl _ _).alloc (Nat.le_refl _) _).alloc (by simp) _) n1⟩

end Go.Proofs.YtjnnmihbkieblaaGreatDoor

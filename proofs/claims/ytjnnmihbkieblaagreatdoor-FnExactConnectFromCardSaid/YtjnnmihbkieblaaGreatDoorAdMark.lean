/-
  The laws' own markAddress and heldAddress. Conditions: the quad reads as a list of integers; the marks stay below 2^40.
-/
import Derived.Test.YtjnnmihbkieblaaGreatDoorAdLaws
namespace Go.Proofs.YtjnnmihbkieblaaGreatDoor
open Go.RowKit

set_option maxRecDepth 100000 in
set_option maxHeartbeats 2000000 in
theorem markAddress_any (k : Int) (q : Value) (nm : ByteArray) (p : Int) (qs : List Int) (lo : Nat) (m : Int) (w : World) (hq : Ints w lo q qs) (h0 : 0 ≤ m) (h1 : m ≤ 1099511627776) (h2 : qs.length ≤ 1099511627776) :
    Calls Tryz.prog 14 #[.agg #[.int .i64 k, q, .string nm, .int .i64 p], .int .i64 m] w fun e w' => e = .returned (.int .i64 (m + qs.length)) ∧ Ints w' lo q (marks m qs.length) ∧ w.grownBy w' q.ownBlock := by
  have HQ := Lib.hid hq
  obtain ⟨A, c, rfl, hc, hm, _⟩ := hq.open_
  clear hq
  go_enter Tryz.func14, Tryz.ntmps14
  go_wp2_with fail
  refine (markIntS_any _ qs lo m _ (HQ.out.alloc _) h0 h1 h2).mono ?_
  rintro e w1 ⟨rfl, i1, g1⟩
  have I1 := Lib.hid i1
  have G1 := Lib.hid g1
  clear i1 g1
  go_wp2_with fail
  go_ret
  exact ⟨rfl, I1.out, only_trans (only_alloc (World.grownBy.refl w _) _) G1.out⟩
set_option maxRecDepth 100000 in
set_option maxHeartbeats 2000000 in
theorem heldAddress_any (k : Int) (q : Value) (nm : ByteArray) (p : Int) (m : Int) (n : Nat) (w : World) (hq : Ints w 0 q (marks m n)) (h0 : 0 ≤ m) (h1 : m ≤ 1099511627776) (h2 : n ≤ 1099511627776) :
    Calls Tryz.prog 15 #[.agg #[.int .i64 k, q, .string nm, .int .i64 p], .int .i64 m] w fun e w' => e = .returned (.int .i64 (m + n)) ∧ Below w.heap.size w w' := by
  have HQ := Lib.hid hq
  obtain ⟨A, c, rfl, hc, hm, _⟩ := hq.open_
  have h3 : ¬ m + (n : Int) < 0 := by omega
  clear hq
  go_enter Tryz.func15, Tryz.ntmps15
  go_wp2_with fail
  refine (heldIntS_any _ m n _ (HQ.out.alloc _) h0 h1 h2).mono ?_
  rintro e w1 ⟨rfl, rfl⟩
  go_wp2_with fail
  go_ret
  exact ⟨rfl, (Below.refl _ _).alloc (Nat.le_refl _) _⟩
end Go.Proofs.YtjnnmihbkieblaaGreatDoor

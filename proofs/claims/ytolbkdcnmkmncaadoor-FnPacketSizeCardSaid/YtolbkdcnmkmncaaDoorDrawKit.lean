/-
  What draws out of literal lists need. Conditions: none.
-/
import Derived.Test.YtolbkdcnmkmncaaDoorDrewInts
namespace Go.Proofs.YtolbkdcnmkmncaaDoor
open Go.RowKit

theorem pick_nat {n : Nat} {x : Int} (hn : 1 ≤ n) (h : PickOk n x) : ∃ j : Nat, x = j ∧ j < n := by
  obtain ⟨h0, h1⟩ := h
  exact ⟨x.toNat, by omega, by omega⟩
theorem pick_lit {n : Int} {x : Int} (m : Nat) (hm : n = m) (hn : 1 ≤ m) (h : PickOk n x) : ∃ j : Nat, x = j ∧ j < m := by
  subst hm
  exact pick_nat hn h
theorem own_lit_cell {w w' : World} {hi g p : Nat} {L : List Int} (hr : Rd6 (w.alloc (.cells (iv L).toArray 3)) hi g p) (hg : (w.alloc (.cells (iv L).toArray 3)).grownBy w' (some g)) (hL : L.length ≤ 1000) {j : Nat} (hj : j < L.length) :
    w'.cell? ⟨w.heap.size, j, none⟩ = some (.int .i64 (L.getD j 0)) :=
  (hr.own (Own.lit w L 0 (Nat.zero_le _) (by omega)) hg).cell hj
end Go.Proofs.YtolbkdcnmkmncaaDoor

/-
  The drawn quad: a list of at most four integers in memory of the call's own. Conditions: the reader's counter is small.
-/
import Derived.Test.YtjnnmihbkieblaaDoorDrawAd
import Derived.Deep.AppendLies
import Derived.BigRegion
import Derived.RegionTactic
import Derived.Deep.RegionWith
namespace Go.Proofs.YtjnnmihbkieblaaDoor
open Go.RowKit

/-- Old cells behind a draw. -/
theorem far_cells {W w' : World} {g : Nat} (h : W.grownBy w' (some g)) : ∀ b o, b ≠ g → b < W.heap.size → w'.cell? ⟨b, o, none⟩ = W.cell? ⟨b, o, none⟩ := by
  intro b o hb hl
  exact World.grownBy.cell_far h ⟨b, o, none⟩ hl (by intro e; injection e with e; exact hb e)
theorem Own.part {w : World} {base b n c k : Nat} {zs : List Int} (h : Own w base (.slice (some ⟨b, 0, none⟩) n c) zs) (hk : k ≤ zs.length) : Own w base (.slice (some ⟨b, 0, none⟩) k c) (zs.take k) := by
  have hl : (zs.take k).length = k := by simp; omega
  have hz := h.1
  rcases h.2 with ⟨h0, _⟩ | ⟨g, cap, cur, he, hb, hh, hnc, hcm, hsz, ht⟩
  · cases h0
  · injection he with e1 e2 e3
    injection e1 with e1
    injection e1 with e1
    subst e1 e2 e3
    refine ⟨by rw [iv_length, hl]; omega, .inr ⟨b, c, cur, by rw [hl], hb, hh, by rw [hl]; omega, hcm, hsz, ?_⟩⟩
    rw [hl, Nat.mul_one]
    have e : iv (zs.take k) = (iv zs).take k := by simp [iv, List.map_take]
    rw [e, ← ht, List.take_take, Nat.min_eq_left (by omega)]
theorem lit5_get {x y : Int} {j : Nat} (hj : j < 5) (hy : ([0, 1, 10, 255, x] : List Int).getD j 0 = y) (h : j < ([Value.int .i64 0, .int .i64 1, .int .i64 10, .int .i64 255, .int .i64 x] : List Value).length) : ([Value.int .i64 0, .int .i64 1, .int .i64 10, .int .i64 255, .int .i64 x] : List Value)[j]'h = .int .i64 y := by
  subst hy
  match j, hj with
  | 0, _ => rfl
  | 1, _ => rfl
  | 2, _ => rfl
  | 3, _ => rfl
  | 4, _ => rfl

end Go.Proofs.YtjnnmihbkieblaaDoor

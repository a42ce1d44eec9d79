/-
  The drawn address. Conditions: the reader's counter is small.
-/
import Derived.Test.YtjnnmihbkieblaaDoorDrawQuad
import Derived.Test.YtjnnmihbkieblaaDoorAppend
namespace Go.Proofs.YtjnnmihbkieblaaDoor
open Go.RowKit

/-- A struct's four cells are stored. -/
def set4 (w : World) (B : Nat) (x y z u : Value) : World := (((w.setCell ⟨B, 0, none⟩ x).setCell ⟨B, 1, none⟩ y).setCell ⟨B, 2, none⟩ z).setCell ⟨B, 3, none⟩ u
theorem Own.set4 {w : World} {base B : Nat} {v x y z u : Value} {zs : List Int} (h : Own w base v zs) (hb : B < base) : Own (set4 w B x y z u) base v zs := (((h.far hb x).far hb y).far hb z).far hb u
theorem Rd6.set4 {w : World} {hi g p B : Nat} {x y z u : Value} (h : Rd6 w hi g p) (hp : g ≠ B) (hh : hi ≤ B) : Rd6 (Go.Proofs.YtjnnmihbkieblaaDoor.set4 w B x y z u) hi g p :=
  (((h.far (a := ⟨B, 0, none⟩) hp hh x).far (a := ⟨B, 1, none⟩) hp hh y).far (a := ⟨B, 2, none⟩) hp hh z).far (a := ⟨B, 3, none⟩) hp hh u
theorem only_set4 {a w : World} {g B : Nat} {x y z u : Value} (h : a.grownBy w (some g)) (hB : a.heap.size ≤ B) : a.grownBy (set4 w B x y z u) (some g) :=
  only_setCell (p := ⟨B, 3, none⟩) (only_setCell (p := ⟨B, 2, none⟩) (only_setCell (p := ⟨B, 1, none⟩) (only_setCell (p := ⟨B, 0, none⟩) h (.inr hB) x) (.inr hB) y) (.inr hB) z) (.inr hB) u

/-- Behind a draw of an address. -/
def DrewAd (w : World) (hi g p : Nat) (e : Ending) (w' : World) : Prop :=
  ∃ k q qs nm pt p', e = .returned (.agg #[.int .i64 k, q, .string nm, .int .i64 pt]) ∧ Own w' w.heap.size q qs ∧ qs.length ≤ 4 ∧ nm.size ≤ 21 ∧ p' ≤ p + 20 ∧ Rd6 w' hi g p' ∧ w.grownBy w' (some g)

end Go.Proofs.YtjnnmihbkieblaaDoor

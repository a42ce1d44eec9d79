/-
  Two slices that two calls own lie apart; what came in stays. Conditions: none.
-/
import Derived.Test.YtolbkdcnmkmncaaDoorAppend
namespace Go.Proofs.YtolbkdcnmkmncaaDoor
open Go.RowKit

/-- The later one is none of the earlier one's. -/
theorem Own.past {w1 w2 : World} {b0 : Nat} {u v : Value} {us vs : List Int} (hu : Own w1 b0 u us) (hv : Own w2 w1.heap.size v vs) : v.ownBlock = none ∨ v.ownBlock ≠ u.ownBlock := by
  cases hb : v.ownBlock with
  | none => exact .inl rfl
  | some k =>
    right
    intro he
    have h1 := (World.ownsRow.lt hv k hb).1
    have h2 := (World.ownsRow.lt hu k he.symm).2
    omega
theorem Own.ahead {w1 w2 : World} {b0 : Nat} {u v : Value} {us vs : List Int} (hu : Own w1 b0 u us) (hv : Own w2 w1.heap.size v vs) : u.ownBlock = none ∨ u.ownBlock ≠ v.ownBlock := by
  cases hb : u.ownBlock with
  | none => exact .inl rfl
  | some k =>
    right
    intro he
    have h1 := (World.ownsRow.lt hu k hb).2
    have h2 := (World.ownsRow.lt hv k he.symm).1
    omega
/-- A block that is older than a slice stays when the slice is written. -/
theorem Own.older {w w' : World} {b0 g n : Nat} {v : Value} {zs : List Int} (hv : Own w b0 v zs) (hg : (w.drewN n).grownBy w' v.ownBlock) (hlt : g < b0) (hw : g < w.heap.size) : w'.heap[g]? = w.heap[g]? := by
  refine hg.block g hw ?_
  intro he
  have := (World.ownsRow.lt hv g he.symm).1
  omega
theorem Came.below {k : IntKind} {w w' : World} {hi : Nat} {v : Value} {zs : List Int} (h : Came k w hi v zs) (hb : Below hi w w') : Came k w' hi v zs := h.keep fun b hb' => hb.block b hb'
theorem Own.far {w : World} {base B i : Nat} {v : Value} {zs : List Int} (h : Own w base v zs) (hb : B < base) (u : Value) : Own (w.setCell ⟨B, i, none⟩ u) base v zs := by
  refine h.keep (only_setCell (p := ⟨B, i, none⟩) (World.grownBy.refl w (some B)) (.inl rfl) u) ?_
  cases hv : v.ownBlock with
  | none => exact .inl rfl
  | some k =>
    right
    intro he
    have h1 := (World.ownsRow.lt h k hv).1
    have : k = B := by simpa using he
    omega
theorem Own.farN {w : World} {base B i : Nat} {v : Value} {zs : List Int} (h : Own w base v zs) (hb : v.ownBlock ≠ some B) (u : Value) : Own (w.setCell ⟨B, i, none⟩ u) base v zs :=
  h.keep (only_setCell (p := ⟨B, i, none⟩) (World.grownBy.refl w (some B)) (.inl rfl) u) (.inr hb)
end Go.Proofs.YtolbkdcnmkmncaaDoor

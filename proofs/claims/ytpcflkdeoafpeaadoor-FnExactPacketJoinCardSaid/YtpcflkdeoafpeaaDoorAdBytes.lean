/-
  The bytes of a valid address: addressBytes of the program and l3Bytes of the reference. Conditions: the address is valid; the quad reads as a list of integers.
  The bytes of a valid address: the program's addressBytes, and AddressBytes. Conditions: the quad reads as a list of integers.
-/
import Derived.Test.YtpcflkdeoafpeaaDoorAdOk
import Derived.Test.YtpcflkdeoafpeaaDoorNum
import Derived.Test.YtpcflkdeoafpeaaDoorTexts
import Derived.Deep.RegionHeld3
import Derived.Test.YtpcflkdeoafpeaaDoorAppend
namespace Go.Proofs.YtpcflkdeoafpeaaDoor
open Go.RowKit

theorem one_alloc {w W : World} {B i : Nat} {x : Value} (h : W.cell? ⟨B, i, none⟩ = some x ∧ B < W.heap.size ∧ Below w.heap.size w W) (o : Obj) :
    (W.alloc o).cell? ⟨B, i, none⟩ = some x ∧ B < (W.alloc o).heap.size ∧ Below w.heap.size w (W.alloc o) := by
  obtain ⟨h0, h2, h3⟩ := h
  exact ⟨(World.cell?_alloc_lt W o ⟨B, i, none⟩ h2).trans h0, by simp; omega, h3.alloc h3.size o⟩
theorem one_below {w W W' : World} {B i : Nat} {x : Value} (h : W.cell? ⟨B, i, none⟩ = some x ∧ B < W.heap.size ∧ Below w.heap.size w W) (b : Below W.heap.size W W') :
    W'.cell? ⟨B, i, none⟩ = some x ∧ B < W'.heap.size ∧ Below w.heap.size w W' := by
  obtain ⟨h0, h2, h3⟩ := h
  exact ⟨(b.cell (p := ⟨B, i, none⟩) h2).trans h0, Nat.lt_of_lt_of_le h2 b.size, h3.trans (b.mono h3.size)⟩
theorem one_belowB {w W W' : World} {B i : Nat} {x : Value} (h : W.cell? ⟨B, i, none⟩ = some x ∧ B < W.heap.size ∧ Below w.heap.size w W) (b : Below (B + 1) W W') (hB : w.heap.size ≤ B) :
    W'.cell? ⟨B, i, none⟩ = some x ∧ B < W'.heap.size ∧ Below w.heap.size w W' := by
  obtain ⟨h0, h2, h3⟩ := h
  exact ⟨(b.cell (p := ⟨B, i, none⟩) (Nat.lt_succ_self B)).trans h0, Nat.lt_of_lt_of_le h2 b.size, h3.trans (b.mono (by omega))⟩
theorem Own.lit_1 {W : World} {x : Int} {g base : Nat} (hg : g = W.heap.size) (hb : base ≤ W.heap.size) : Own (W.alloc (.cells #[.int .i64 x] 3)) base (.slice (some ⟨g, 0, none⟩) 1 1) [x] := by
  subst hg
  exact Own.lit W [x] base hb (by simp)
/-- A row of another, older block has grown. -/
theorem Own.apart {w w' : World} {base b n c : Nat} {v : Value} {zs : List Int} (h : Own w base v zs) (hg : w.grownBy w' (Value.slice (some ⟨b, 0, none⟩) n c).ownBlock) (hb : b < base) : Own w' base v zs := by
  refine h.keep hg ?_
  cases hv : v.ownBlock with
  | none => exact .inl rfl
  | some k =>
    right
    intro he
    have h1 := (World.ownsRow.lt h k hv).1
    have : k = b := by simpa [Value.ownBlock] using he
    omega

end Go.Proofs.YtpcflkdeoafpeaaDoor
namespace Go.Proofs.YtpcflkdeoafpeaaDoor
open Go.RowKit

end Go.Proofs.YtpcflkdeoafpeaaDoor

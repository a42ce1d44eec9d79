/-
  Literal slices of integers, slices of such slices, and a block's two cells beside calls that make memory. Conditions: none.
-/
import Derived.Test.YtpcflkdeoafpeaaDoorReader
namespace Go.Proofs.YtpcflkdeoafpeaaDoor
open Go.RowKit

theorem Ints.lit_ {W : World} {zs : List Int} {g n : Nat} (hg : g = W.heap.size) (hn : zs.length = n) (hm : n ≤ 1000) : Ints (W.alloc (.cells (iv zs).toArray 3)) 0 (.slice (some ⟨g, 0, none⟩) n n) zs := by
  subst hg hn
  exact (Own.lit W zs 0 (Nat.zero_le _) (by omega)).ints
theorem Ints.lit_1 {W : World} {x : Int} {g : Nat} (hg : g = W.heap.size) : Ints (W.alloc (.cells #[.int .i64 x] 3)) 0 (.slice (some ⟨g, 0, none⟩) 1 1) [x] := Ints.lit_ hg rfl (by omega)
theorem Ints.lit_2 {W : World} {x y : Int} {g : Nat} (hg : g = W.heap.size) : Ints (W.alloc (.cells #[.int .i64 x, .int .i64 y] 3)) 0 (.slice (some ⟨g, 0, none⟩) 2 2) [x, y] := Ints.lit_ hg rfl (by omega)
theorem two_alloc {w W : World} {B : Nat} {x y : Value} (h : W.cell? ⟨B, 0, none⟩ = some x ∧ W.cell? ⟨B, 1, none⟩ = some y ∧ B < W.heap.size ∧ Below w.heap.size w W) (o : Obj) :
    (W.alloc o).cell? ⟨B, 0, none⟩ = some x ∧ (W.alloc o).cell? ⟨B, 1, none⟩ = some y ∧ B < (W.alloc o).heap.size ∧ Below w.heap.size w (W.alloc o) := by
  obtain ⟨h0, h1, h2, h3⟩ := h
  exact ⟨(World.cell?_alloc_lt W o ⟨B, 0, none⟩ h2).trans h0, (World.cell?_alloc_lt W o ⟨B, 1, none⟩ h2).trans h1, by simp; omega, h3.alloc h3.size o⟩
theorem two_below {w W W' : World} {B : Nat} {x y : Value} (h : W.cell? ⟨B, 0, none⟩ = some x ∧ W.cell? ⟨B, 1, none⟩ = some y ∧ B < W.heap.size ∧ Below w.heap.size w W) (b : Below W.heap.size W W') :
    W'.cell? ⟨B, 0, none⟩ = some x ∧ W'.cell? ⟨B, 1, none⟩ = some y ∧ B < W'.heap.size ∧ Below w.heap.size w W' := by
  obtain ⟨h0, h1, h2, h3⟩ := h
  exact ⟨(b.cell (p := ⟨B, 0, none⟩) h2).trans h0, (b.cell (p := ⟨B, 1, none⟩) h2).trans h1, Nat.lt_of_lt_of_le h2 b.size, h3.trans (b.mono h3.size)⟩
theorem two_belowB {w W W' : World} {B : Nat} {x y : Value} (h : W.cell? ⟨B, 0, none⟩ = some x ∧ W.cell? ⟨B, 1, none⟩ = some y ∧ B < W.heap.size ∧ Below w.heap.size w W) (b : Below (B + 1) W W') (hB : w.heap.size ≤ B) :
    W'.cell? ⟨B, 0, none⟩ = some x ∧ W'.cell? ⟨B, 1, none⟩ = some y ∧ B < W'.heap.size ∧ Below w.heap.size w W' := by
  obtain ⟨h0, h1, h2, h3⟩ := h
  exact ⟨(b.cell (p := ⟨B, 0, none⟩) (Nat.lt_succ_self B)).trans h0, (b.cell (p := ⟨B, 1, none⟩) (Nat.lt_succ_self B)).trans h1, Nat.lt_of_lt_of_le h2 b.size, h3.trans (b.mono (by omega))⟩
theorem Own.lit_2 {W : World} {x y : Int} {g base : Nat} (hg : g = W.heap.size) (hb : base ≤ W.heap.size) : Own (W.alloc (.cells #[.int .i64 x, .int .i64 y] 3)) base (.slice (some ⟨g, 0, none⟩) 2 2) [x, y] := by
  subst hg
  exact Own.lit W [x, y] base hb (by simp)
end Go.Proofs.YtpcflkdeoafpeaaDoor

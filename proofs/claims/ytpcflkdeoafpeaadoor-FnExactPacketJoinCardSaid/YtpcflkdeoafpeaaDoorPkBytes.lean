/-
  PacketBytes of the program and of the reference return the same bytes, in memory of their own, or fail alike. Conditions: the quad and the data read as lists of integers, the name has fewer than 2^32 - 15 bytes.
-/
import Derived.Test.YtpcflkdeoafpeaaDoorPkOk
import Derived.Test.YtpcflkdeoafpeaaDoorCodeBytes
import Derived.Test.YtpcflkdeoafpeaaDoorConcat
namespace Go.Proofs.YtpcflkdeoafpeaaDoor
open Go.RowKit

theorem rows3 {W : World} {a b c : Value} {la lb lc : List Int} {g : Nat} (hg : g = W.heap.size) (ha : Ints W 0 a la) (hb : Ints W 0 b lb) (hc : Ints W 0 c lc) :
    Rows2 (W.alloc (.cells #[a, b, c] 25)) (.slice (some ⟨g, 0, none⟩) 3 3) [la, lb, lc] := by
  subst hg
  refine ⟨[a, b, c], ⟨rfl, some ⟨W.heap.size, 0, none⟩, 3, rfl, Nat.le_refl _, by unfold maxLen; simp, .inr ⟨W.heap.size, 0, rfl, Nat.zero_le _, #[a, b, c], heap_alloc_new W _, fun j u hu => by simpa using hu⟩⟩, ?_⟩
  intro j hj
  match j, hj with
  | 0, _ => exact ⟨a, rfl, ha.alloc _⟩
  | 1, _ => exact ⟨b, rfl, hb.alloc _⟩
  | 2, _ => exact ⟨c, rfl, hc.alloc _⟩
theorem Ints.lit_3 {W : World} {x y z : Int} {g : Nat} (hg : g = W.heap.size) : Ints (W.alloc (.cells #[.int .i64 x, .int .i64 y, .int .i64 z] 3)) 0 (.slice (some ⟨g, 0, none⟩) 3 3) [x, y, z] := Ints.lit_ hg rfl (by omega)
theorem pk_flat (f k : Int) (qs : List Int) (nm : ByteArray) (p : Int) (ds : List Int) : [[0, 0, f], adB k qs nm p, ds].flatten = pkB f k qs nm p ds := by simp [pkB]

/-- Six cells of a block that lies below. -/
theorem six_alloc {w W : World} {B : Nat} {x y z u v t : Value} (h : W.cell? ⟨B, 0, none⟩ = some x ∧ W.cell? ⟨B, 1, none⟩ = some y ∧ W.cell? ⟨B, 2, none⟩ = some z ∧ W.cell? ⟨B, 3, none⟩ = some u ∧ W.cell? ⟨B, 4, none⟩ = some v ∧ W.cell? ⟨B, 5, none⟩ = some t ∧ B < W.heap.size ∧ Below w.heap.size w W) (o : Obj) :
    (W.alloc o).cell? ⟨B, 0, none⟩ = some x ∧ (W.alloc o).cell? ⟨B, 1, none⟩ = some y ∧ (W.alloc o).cell? ⟨B, 2, none⟩ = some z ∧ (W.alloc o).cell? ⟨B, 3, none⟩ = some u ∧ (W.alloc o).cell? ⟨B, 4, none⟩ = some v ∧ (W.alloc o).cell? ⟨B, 5, none⟩ = some t ∧ B < (W.alloc o).heap.size ∧ Below w.heap.size w (W.alloc o) := by
  obtain ⟨h0, h1, h2, h3, h4, h5, h6, h7⟩ := h
  exact ⟨(World.cell?_alloc_lt W o ⟨B, 0, none⟩ h6).trans h0, (World.cell?_alloc_lt W o ⟨B, 1, none⟩ h6).trans h1, (World.cell?_alloc_lt W o ⟨B, 2, none⟩ h6).trans h2, (World.cell?_alloc_lt W o ⟨B, 3, none⟩ h6).trans h3, (World.cell?_alloc_lt W o ⟨B, 4, none⟩ h6).trans h4, (World.cell?_alloc_lt W o ⟨B, 5, none⟩ h6).trans h5, by simp; omega, h7.alloc h7.size o⟩
theorem six_below {w W W' : World} {B : Nat} {x y z u v t : Value} (h : W.cell? ⟨B, 0, none⟩ = some x ∧ W.cell? ⟨B, 1, none⟩ = some y ∧ W.cell? ⟨B, 2, none⟩ = some z ∧ W.cell? ⟨B, 3, none⟩ = some u ∧ W.cell? ⟨B, 4, none⟩ = some v ∧ W.cell? ⟨B, 5, none⟩ = some t ∧ B < W.heap.size ∧ Below w.heap.size w W) (b : Below W.heap.size W W') :
    W'.cell? ⟨B, 0, none⟩ = some x ∧ W'.cell? ⟨B, 1, none⟩ = some y ∧ W'.cell? ⟨B, 2, none⟩ = some z ∧ W'.cell? ⟨B, 3, none⟩ = some u ∧ W'.cell? ⟨B, 4, none⟩ = some v ∧ W'.cell? ⟨B, 5, none⟩ = some t ∧ B < W'.heap.size ∧ Below w.heap.size w W' := by
  obtain ⟨h0, h1, h2, h3, h4, h5, h6, h7⟩ := h
  exact ⟨(b.cell (p := ⟨B, 0, none⟩) h6).trans h0, (b.cell (p := ⟨B, 1, none⟩) h6).trans h1, (b.cell (p := ⟨B, 2, none⟩) h6).trans h2, (b.cell (p := ⟨B, 3, none⟩) h6).trans h3, (b.cell (p := ⟨B, 4, none⟩) h6).trans h4, (b.cell (p := ⟨B, 5, none⟩) h6).trans h5, Nat.lt_of_lt_of_le h6 b.size, h7.trans (b.mono h7.size)⟩

theorem six_belowB {w W W' : World} {B C : Nat} {x y z u v t : Value} (h : W.cell? ⟨B, 0, none⟩ = some x ∧ W.cell? ⟨B, 1, none⟩ = some y ∧ W.cell? ⟨B, 2, none⟩ = some z ∧ W.cell? ⟨B, 3, none⟩ = some u ∧ W.cell? ⟨B, 4, none⟩ = some v ∧ W.cell? ⟨B, 5, none⟩ = some t ∧ B < W.heap.size ∧ Below w.heap.size w W) (b : Below C W W') (hB : w.heap.size ≤ C) (hC : B < C) :
    W'.cell? ⟨B, 0, none⟩ = some x ∧ W'.cell? ⟨B, 1, none⟩ = some y ∧ W'.cell? ⟨B, 2, none⟩ = some z ∧ W'.cell? ⟨B, 3, none⟩ = some u ∧ W'.cell? ⟨B, 4, none⟩ = some v ∧ W'.cell? ⟨B, 5, none⟩ = some t ∧ B < W'.heap.size ∧ Below w.heap.size w W' := by
  obtain ⟨h0, h1, h2, h3, h4, h5, h6, h7⟩ := h
  exact ⟨(b.cell (p := ⟨B, 0, none⟩) hC).trans h0, (b.cell (p := ⟨B, 1, none⟩) hC).trans h1, (b.cell (p := ⟨B, 2, none⟩) hC).trans h2, (b.cell (p := ⟨B, 3, none⟩) hC).trans h3, (b.cell (p := ⟨B, 4, none⟩) hC).trans h4, (b.cell (p := ⟨B, 5, none⟩) hC).trans h5, Nat.lt_of_lt_of_le h6 b.size, h7.trans (b.mono hB)⟩
theorem Ints.belowSix {w W : World} {lo B : Nat} {d x y z u v t : Value} {zs : List Int} (h : Ints w lo d zs) (hs : W.cell? ⟨B, 0, none⟩ = some x ∧ W.cell? ⟨B, 1, none⟩ = some y ∧ W.cell? ⟨B, 2, none⟩ = some z ∧ W.cell? ⟨B, 3, none⟩ = some u ∧ W.cell? ⟨B, 4, none⟩ = some v ∧ W.cell? ⟨B, 5, none⟩ = some t ∧ B < W.heap.size ∧ Below w.heap.size w W) : Ints W lo d zs := h.below hs.2.2.2.2.2.2.2
theorem pk_app (f k : Int) (qs : List Int) (nm : ByteArray) (p : Int) (ds : List Int) : ([0, 0, f] ++ adB k qs nm p) ++ ds = pkB f k qs nm p ds := by simp [pkB]

end Go.Proofs.YtpcflkdeoafpeaaDoor

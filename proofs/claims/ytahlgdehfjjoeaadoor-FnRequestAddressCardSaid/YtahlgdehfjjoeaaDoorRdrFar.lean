/-
  The program's reader beside stores into other blocks; the length of a text that it reads. Conditions: none.
-/
import Derived.Test.YtahlgdehfjjoeaaDoorText
import Derived.Test.YtahlgdehfjjoeaaDoorBlk
namespace Go.Proofs.YtahlgdehfjjoeaaDoor
open Go.RowKit

theorem Rdr.far {w : World} {g : Nat} {v : Value} {zs : List Int} {s : Nat × Bool} (h : Rdr w g v zs s) {b i : Nat} {e : TypeId} {cs : Array Value} (hb : Blk w b e cs) (he : 3 ≠ e) (hg : g ≠ b) (u : Value) : Rdr (w.setCell ⟨b, i, none⟩ u) g v zs s := by
  have hG : w.grownBy (w.setCell ⟨b, i, none⟩ u) (some b) := only_setCell (p := ⟨b, i, none⟩) (World.grownBy.refl w _) (.inl rfl) _
  exact ⟨(Below.heap_setCell w ⟨b, i, none⟩ u g hg).trans h.1, h.2.1.grown hG hb he, h.2.2⟩
theorem str_len {zs : List Int} {n : Nat} (h : zs.length ≤ n) : (strOfNums zs).size ≤ n := by rw [str_length]; exact h
theorem rText_len (zs : List Int) (s : Nat × Bool) (hf : RFit zs s) : (rText zs s).length ≤ 255 := by
  rw [rText, rGot_length]
  have := (rByte_range hf).2
  omega
end Go.Proofs.YtahlgdehfjjoeaaDoor

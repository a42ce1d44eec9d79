/-
  The program's reader reads a number of two bytes and an address: plain functions of the bytes and the place. Conditions: none.
-/
import Derived.Test.YtdmkacbjdojkpaaDoorText
import Derived.Test.YtdmkacbjdojkpaaDoorAdOk
import Derived.Test.YtdmkacbjdojkpaaDoorNum
import Derived.Test.YtdmkacbjdojkpaaDoorPk
import Derived.Test.YtdmkacbjdojkpaaDoorBlk
import Derived.Test.YtdmkacbjdojkpaaDoorAppend
namespace Go.Proofs.YtdmkacbjdojkpaaDoor
open Go.RowKit

theorem two_of {L : List Int} (h : L.length = 2) : ∃ a b, L = [a, b] := by
  match L, h with
  | [a, b], _ => exact ⟨a, b, rfl⟩

theorem slice_ints_ {P : Program} {t : TypeId} {w : World} {b o len c s : Nat} {l h : Int} (ht : P.underlying t = some (.slice (P.elem t))) (hz : (sizeOf (P.elem t)).run P w = .ok s w) (h0 : 0 ≤ l) (h1 : l ≤ h) (h2 : h ≤ c) :
    (Instr.slice t (.slice (some ⟨b, o, none⟩) len c) (some (.int .i64 l)) (some (.int .i64 h)) none).run P w = .ok (sliced (some ⟨b, o, none⟩) l.toNat h.toNat c s) w := by
  rw [run_slice_lh w t _ len c ht .i64 .i64 l h h0 h1 h2, hz]
  rfl
theorem Tryd.ulInts : Tryd.prog.underlying 23 = some (.slice (Tryd.prog.elem 23)) := by kernel_rfl
theorem Tryd.sizeInts (w : World) : (sizeOf (Tryd.prog.elem 23)).run Tryd.prog w = .ok 1 w := by kernel_rfl
/-- A part of a slice of integers, its run over an abstract value. -/
theorem slice_part {W0 : World} {b o n c l h : Nat} {zs : List Int} (hs : Seg W0 3 b o (iv zs)) (hn : zs.length = n) (hlh : l ≤ h) (hh : h ≤ n) (hnc : n ≤ c) (hc : c ≤ 9223372036854775807) :
    ∃ V, (∀ W : World, (Instr.slice 23 (.slice (some ⟨b, o, none⟩) n c) (some (.int .i64 (l : Int))) (some (.int .i64 (h : Int))) none).run Tryd.prog W = .ok V W) ∧ Ints W0 0 V ((zs.drop l).take (h - l)) := by
  refine ⟨_, fun W => slice_ints_ Tryd.ulInts (Tryd.sizeInts W) (by omega) (by omega) (by omega), ?_⟩
  simp only [Int.toNat_natCast, sliced]
  by_cases hcl : c = l
  · have e : h - l = 0 := by omega
    rw [e, List.take_zero]
    simp [hcl]
    exact Ints.none_ _ _ _ _ (by omega)
  · simp [hcl, addr_add]
    exact Ints.part hs (by omega) (by omega) (by omega)

theorem slice_from_ints {P : Program} {t : TypeId} {w : World} {b o len c s : Nat} {l : Int} (ht : P.underlying t = some (.slice (P.elem t))) (hz : (sizeOf (P.elem t)).run P w = .ok s w) (h0 : 0 ≤ l) (h1 : l ≤ len) :
    (Instr.slice t (.slice (some ⟨b, o, none⟩) len c) (some (.int .i64 l)) none none).run P w = .ok (sliced (some ⟨b, o, none⟩) l.toNat len c s) w := by
  rw [run_slice_l w t _ len c ht .i64 l h0 h1, hz]
  rfl
/-- The end of a slice of integers, its run over an abstract value. -/
theorem slice_end {W0 : World} {b o n c l : Nat} {zs : List Int} (hs : Seg W0 3 b o (iv zs)) (hn : zs.length = n) (hlh : l ≤ n) (hnc : n ≤ c) (hc : c ≤ 9223372036854775807) :
    ∃ V, (∀ W : World, (Instr.slice 23 (.slice (some ⟨b, o, none⟩) n c) (some (.int .i64 (l : Int))) none none).run Tryd.prog W = .ok V W) ∧ Ints W0 0 V (zs.drop l) := by
  refine ⟨_, fun W => slice_from_ints Tryd.ulInts (Tryd.sizeInts W) (by omega) (by omega), ?_⟩
  simp only [Int.toNat_natCast, sliced]
  have hd : zs.drop l = (zs.drop l).take (n - l) := by
    rw [List.take_of_length_le]
    simp
    omega
  by_cases hcl : c = l
  · have e : n - l = 0 := by omega
    rw [hd, e, List.take_zero]
    simp [hcl]
    exact Ints.none_ _ _ _ _ (by omega)
  · rw [hd]
    simp [hcl, addr_add]
    exact Ints.part hs (by omega) (by omega) (by omega)

/-- A struct of four cells is stored, whole. -/
def st4 (w : World) (B : Nat) (x y z u : Value) : World := (((w.setCell ⟨B, 0, none⟩ x).setCell ⟨B, 1, none⟩ y).setCell ⟨B, 2, none⟩ z).setCell ⟨B, 3, none⟩ u
theorem Own.st4 {w : World} {base B : Nat} {v x y z u : Value} {zs : List Int} (h : Own w base v zs) (hb : B < base) : Own (st4 w B x y z u) base v zs := (((h.far hb x).far hb y).far hb z).far hb u
theorem only_st4 {a w : World} {g B : Nat} {x y z u : Value} (h : a.grownBy w (some g)) (hB : a.heap.size ≤ B) : a.grownBy (st4 w B x y z u) (some g) :=
  only_setCell (p := ⟨B, 3, none⟩) (only_setCell (p := ⟨B, 2, none⟩) (only_setCell (p := ⟨B, 1, none⟩) (only_setCell (p := ⟨B, 0, none⟩) h (.inr hB) x) (.inr hB) y) (.inr hB) z) (.inr hB) u
theorem Blk.st4 {w : World} {g : Nat} {t : TypeId} {a b c d : Value} (h : Blk w g t #[a, b, c, d]) (x y z u : Value) : Blk (st4 w g x y z u) g t #[x, y, z, u] :=
  (((h.set_ 0 x).set_ 1 y).set_ 2 z).set_ 3 u
theorem Blk.farSt4 {w : World} {g B : Nat} {t : TypeId} {cs : Array Value} (h : Blk w g t cs) (hb : g ≠ B) (x y z u : Value) : Blk (Go.Proofs.YtdmkacbjdojkpaaDoor.st4 w B x y z u) g t cs :=
  (((h.far (p := ⟨B, 0, none⟩) hb x).far (p := ⟨B, 1, none⟩) hb y).far (p := ⟨B, 2, none⟩) hb z).far (p := ⟨B, 3, none⟩) hb u
theorem below_st4 {B0 : Nat} {w W : World} {g : Nat} (h : Below B0 w W) (hg : B0 ≤ g) (x y z u : Value) : Below B0 w (st4 W g x y z u) :=
  (((h.setCell (p := ⟨g, 0, none⟩) hg x).setCell (p := ⟨g, 1, none⟩) hg y).setCell (p := ⟨g, 2, none⟩) hg z).setCell (p := ⟨g, 3, none⟩) hg u

end Go.Proofs.YtdmkacbjdojkpaaDoor

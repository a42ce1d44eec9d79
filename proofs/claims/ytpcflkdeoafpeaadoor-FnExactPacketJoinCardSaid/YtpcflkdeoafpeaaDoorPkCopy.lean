/-
  Copies of an address in memory of the call's own: cloneAddress of the program, l13Copy of the reference. Conditions: the quad reads as a list of integers of at most 2^20 elements.
-/
import Derived.Test.YtpcflkdeoafpeaaDoorAdLaws
import Derived.Test.YtpcflkdeoafpeaaDoorAppend
import Derived.Test.YtpcflkdeoafpeaaDoorCodeBytes
namespace Go.Proofs.YtpcflkdeoafpeaaDoor
open Go.RowKit

theorem Own.four {w : World} {base B : Nat} {s x y z u : Value} {zs : List Int} (h : Own w base s zs) (hb : B < base) : Own ((((w.setCell ⟨B, 0, none⟩ x).setCell ⟨B, 1, none⟩ y).setCell ⟨B, 2, none⟩ z).setCell ⟨B, 3, none⟩ u) base s zs :=
  (((h.far hb x).far hb y).far hb z).far hb u
theorem below_four {B0 : Nat} {w W : World} {g : Nat} {x y z u : Value} (h : Below B0 w W) (hg : B0 ≤ g) : Below B0 w ((((W.setCell ⟨g, 0, none⟩ x).setCell ⟨g, 1, none⟩ y).setCell ⟨g, 2, none⟩ z).setCell ⟨g, 3, none⟩ u) :=
  (((h.setCell (p := ⟨g, 0, none⟩) hg x).setCell (p := ⟨g, 1, none⟩) hg y).setCell (p := ⟨g, 2, none⟩) hg z).setCell (p := ⟨g, 3, none⟩) hg u
set_option maxRecDepth 100000 in
set_option maxHeartbeats 2000000 in
theorem l13Copy_any (k : Int) (q : Value) (nm : ByteArray) (p : Int) (qs : List Int) (w : World) (hq : Ints w 0 q qs) (hl : qs.length ≤ 1048576) :
    Calls Tryd.prog 35 #[.agg #[.int .i64 k, q, .string nm, .int .i64 p]] w fun e w' => MadeAd w k qs nm p e w' := by
  have HQ := Lib.hid hq
  obtain ⟨A, c, rfl, _, _, _⟩ := hq.open_
  obtain ⟨V, hV⟩ : ∃ V, ((w.alloc (.cells #[.int .i64 k, .slice A qs.length c, .string nm, .int .i64 p] 30)).alloc (.cells #[.int .i64 0, .slice none 0 0, .string ⟨#[]⟩, .int .i64 0] 30)).alloc (.cells #[] 3) = V := ⟨_, rfl⟩
  have KA : Hid (Blk V w.heap.size 30 #[.int .i64 k, .slice A qs.length c, .string nm, .int .i64 p]) := Lib.hid (by rw [← hV]; exact ((Blk.new_ rfl).alloc _).alloc _)
  have KR : Hid (Blk V (w.heap.size + 1) 30 #[.int .i64 0, .slice none 0 0, .string ⟨#[]⟩, .int .i64 0]) := Lib.hid (by rw [← hV]; exact (Blk.new_ (by simp)).alloc _)
  have B : Hid (Below w.heap.size w V) := Lib.hid (by rw [← hV]; exact (((Below.refl _ w).alloc (Nat.le_refl _) _).alloc (by simp) _).alloc (by simp; omega) _)
  have I : Hid (Ints V 0 (.slice A qs.length c) qs) := Lib.hid (by rw [← hV]; exact ((HQ.out.alloc _).alloc _).alloc _)
  have OE : Hid (Own V (w.heap.size + 1 + 1) (.slice (some ⟨w.heap.size + 1 + 1, 0, none⟩) 0 0) []) := Lib.hid (by rw [← hV]; exact Own.lit_0 (by simp) (by simp))
  have zV : V.heap.size = w.heap.size + 1 + 1 + 1 := by rw [← hV]; simp
  have HV := Lib.hid hV
  clear hq hV
  go_enter Tryd.func35, Tryd.ntmps35
  go_wp2_with (at_builtin; go_loud (rw [HV.out]); go_loud (refine wp_ints rfl (.tmp 3) (.tmp 5) rfl rfl rfl OE.out I.out (by simp; omega) (by omega) ?_); go_loud (intro v1 w1 o1 b1 g1 k1); go_loud (rw [List.nil_append] at o1); go_loud (have KA1 := KA.out.below b1 (by omega)); go_loud (have KR1 := KR.out.below b1 (by omega)); go_loud (have O1 := Lib.hid o1); go_loud (have B1 := Lib.hid (B.out.trans (b1.mono (by omega)))); go_loud (obtain ⟨A1, c1, rfl, _, _, _⟩ := o1.form); go_loud (have a0 : w1.cell? ⟨w.heap.size, 0, none⟩ = some (.int .i64 k) := KA1.cell 0); go_loud (have a1 : w1.cell? ⟨w.heap.size, 1, none⟩ = some (.slice A qs.length c) := KA1.cell 1); go_loud (have a2 : w1.cell? ⟨w.heap.size, 2, none⟩ = some (.string nm) := KA1.cell 2); go_loud (have a3 : w1.cell? ⟨w.heap.size, 3, none⟩ = some (.int .i64 p) := KA1.cell 3); go_loud (have fa := KA1.free 1); go_loud (have r0 : w1.cell? ⟨w.heap.size + 1, 0, none⟩ = some (.int .i64 0) := KR1.cell 0); go_loud (have r1 : w1.cell? ⟨w.heap.size + 1, 1, none⟩ = some (.slice none 0 0) := KR1.cell 1); go_loud (have r2 : w1.cell? ⟨w.heap.size + 1, 2, none⟩ = some (.string ⟨#[]⟩) := KR1.cell 2); go_loud (have r3 : w1.cell? ⟨w.heap.size + 1, 3, none⟩ = some (.int .i64 0) := KR1.cell 3); go_loud (have f0 := KR1.free 0); go_loud (have f1 := KR1.free 1); go_loud (have f2 := KR1.free 2); go_loud (have f3 := KR1.free 3); go_loud (clear o1 KA1 KR1 g1 k1 b1))
  refine bodyPost_ret (v := .agg #[.int .i64 k, .slice A1 qs.length c1, .string nm, .int .i64 p]) (by simp [results, Tryd.results35, go_sem, r0, r1, r2, r3]) rfl ?_
  exact ⟨_, rfl, ((O1.out.far (B := w.heap.size) (i := 1) (by omega) _).four (by omega)).more (by omega), below_four (B1.out.setCell (p := ⟨w.heap.size, 1, none⟩) (Nat.le_refl _) _) (Nat.le_succ _)⟩
end Go.Proofs.YtpcflkdeoafpeaaDoor

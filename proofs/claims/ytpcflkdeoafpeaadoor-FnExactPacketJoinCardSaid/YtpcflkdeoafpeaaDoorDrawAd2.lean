/-
  The drawn address. Conditions: the reader's counter is small.
-/
import Derived.Test.YtpcflkdeoafpeaaDoorDrawQuad
import Derived.Test.YtpcflkdeoafpeaaDoorAppend
namespace Go.Proofs.YtpcflkdeoafpeaaDoor
open Go.RowKit

/-- A struct's four cells are stored. -/
def set4 (w : World) (B : Nat) (x y z u : Value) : World := (((w.setCell ⟨B, 0, none⟩ x).setCell ⟨B, 1, none⟩ y).setCell ⟨B, 2, none⟩ z).setCell ⟨B, 3, none⟩ u
theorem Own.set4 {w : World} {base B : Nat} {v x y z u : Value} {zs : List Int} (h : Own w base v zs) (hb : B < base) : Own (set4 w B x y z u) base v zs := (((h.far hb x).far hb y).far hb z).far hb u
theorem Rd6.set4 {w : World} {hi g p B : Nat} {x y z u : Value} (h : Rd6 w hi g p) (hp : g ≠ B) (hh : hi ≤ B) : Rd6 (Go.Proofs.YtpcflkdeoafpeaaDoor.set4 w B x y z u) hi g p :=
  (((h.far (a := ⟨B, 0, none⟩) hp hh x).far (a := ⟨B, 1, none⟩) hp hh y).far (a := ⟨B, 2, none⟩) hp hh z).far (a := ⟨B, 3, none⟩) hp hh u
theorem only_set4 {a w : World} {g B : Nat} {x y z u : Value} (h : a.grownBy w (some g)) (hB : a.heap.size ≤ B) : a.grownBy (set4 w B x y z u) (some g) :=
  only_setCell (p := ⟨B, 3, none⟩) (only_setCell (p := ⟨B, 2, none⟩) (only_setCell (p := ⟨B, 1, none⟩) (only_setCell (p := ⟨B, 0, none⟩) h (.inr hB) x) (.inr hB) y) (.inr hB) z) (.inr hB) u

/-- Behind a draw of an address. -/
def DrewAd (w : World) (hi g p : Nat) (e : Ending) (w' : World) : Prop :=
  ∃ k q qs nm pt p', e = .returned (.agg #[.int .i64 k, q, .string nm, .int .i64 pt]) ∧ Own w' w.heap.size q qs ∧ qs.length ≤ 4 ∧ nm.size ≤ 21 ∧ p' ≤ p + 20 ∧ Rd6 w' hi g p' ∧ w.grownBy w' (some g)

set_option maxRecDepth 100000 in
set_option maxHeartbeats 4000000 in
theorem l91Address_any (hi g p : Nat) (w : World) (hr : Rd6 w hi g p) (hp : p ≤ 800000) :
    Calls Tryd.prog 17 #[.pointer (some ⟨g, 0, none⟩)] w fun e w' => DrewAd w hi g p e w' := by
  have hgw := hr.lt
  have hhi := hr.1
  have HR := Lib.hid hr
  clear hr
  go_enter Tryd.func17, Tryd.ntmps17
  go_wp2_with fail
  refine (pick_any hi g p 2 _ (HR.out.alloc _) (by omega) (by omega)).mono ?_
  rintro e w1 ⟨x, rfl, _, hr1, hg1⟩
  have R1 := Lib.hid hr1
  have G1 : Hid (w.grownBy w1 (some g)) := Lib.hid (only_trans (only_alloc (World.grownBy.refl w _) _) hg1)
  have K1 := Lib.hid ((Blk.new w 30 #[.int .i64 0, .slice none 0 0, .string .empty, .int .i64 0]).grown hg1 (by intro h; injection h with h; omega))
  have hz1 : w.heap.size < w1.heap.size := K1.out.lt
  clear hr1 hg1
  by_cases hx : x = 0
  · subst hx
    go_wp2_with fail
    refine (l91Quad_any hi g (p + 1) _ R1.out (by omega)).mono ?_
    rintro e w2 ⟨q, qs, p2, rfl, o2, l2, hp2, hr2, hg2⟩
    obtain ⟨A, c, rfl, hc, hlc, _⟩ := o2.form
    have R2 := Lib.hid hr2
    have O2 := Lib.hid o2
    have K2 := Lib.hid (K1.out.grown hg2 (by intro h; injection h with h; omega))
    have G2 := Lib.hid (only_trans G1.out hg2)
    clear hr2 o2 hg2
    go_wp2_with fail
    refine (l91Port_any hi g p2 _ R2.out (by omega)).mono ?_
    rintro e w3 ⟨y, p3, rfl, hp3, hr3, hg3⟩
    have R3 := Lib.hid hr3
    have O3 := Lib.hid (R2.out.own O2.out hg3)
    have K3 := K2.out.grown hg3 (by intro h; injection h with h; omega)
    have G3 := Lib.hid (only_trans G2.out hg3)
    have f0 := K3.free 0
    have f1 := K3.free 1
    have f2 := K3.free 2
    have f3 := K3.free 3
    have c0 : w3.cell? ⟨w.heap.size, 0, none⟩ = some (.int .i64 0) := K3.cell 0
    have c1 : w3.cell? ⟨w.heap.size, 1, none⟩ = some (.slice none 0 0) := K3.cell 1
    have c2 : w3.cell? ⟨w.heap.size, 2, none⟩ = some (.string .empty) := K3.cell 2
    have c3 : w3.cell? ⟨w.heap.size, 3, none⟩ = some (.int .i64 0) := K3.cell 3
    clear hr3 hg3 K3
    go_wp2_with fail
    refine bodyPost_ret (v := .agg #[.int .i64 1, .slice A qs.length c, .string ⟨#[]⟩, .int .i64 y]) (by simp [results, Tryd.results17, go_sem, c0, c1, c2, c3]) rfl ?_
    exact ⟨1, _, qs, ⟨#[]⟩, y, p3, rfl, (O3.out.set4 hz1).more (by omega), l2, by decide, by omega, R3.out.set4 (by omega) (by omega), only_set4 G3.out (Nat.le_refl _)⟩
  · have hx' : (x == 0) = false := by simpa using hx
    clear hx
    go_wp2_with fail
    refine (l91Name_any hi g (p + 1) _ (R1.out.alloc _) (by omega)).mono ?_
    rintro e w2 ⟨s, p2, rfl, hs, hp2, hr2, hg2⟩
    have R2 := Lib.hid hr2
    have O2 : Hid (Own w2 (w.heap.size + 1) (.slice (some ⟨w1.heap.size, 0, none⟩) 0 0) []) := Lib.hid ((R1.out.alloc (.cells #[] 3)).own (Own.lit w1 [] (w.heap.size + 1) hz1 (by simp)) hg2)
    have K2 := Lib.hid ((K1.out.alloc (.cells #[] 3)).grown hg2 (by intro h; injection h with h; omega))
    have G2 := Lib.hid (only_trans (only_alloc G1.out _) hg2)
    have hz12 : w1.heap.size + 1 ≤ w2.heap.size := by have h := hg2.size; simpa using h
    clear hr2 hg2
    go_wp2_with fail
    refine (l91Port_any hi g p2 _ R2.out (by omega)).mono ?_
    rintro e w3 ⟨y, p3, rfl, hp3, hr3, hg3⟩
    have R3 := Lib.hid hr3
    have O3 := Lib.hid (R2.out.own O2.out hg3)
    have K3 := Lib.hid (K2.out.grown hg3 (by intro h; injection h with h; omega))
    have G3 := Lib.hid (only_trans G2.out hg3)
    have hz3 := K3.out.lt
    have hz23 := hg3.size
    clear hr3 hg3
    go_wp2_with fail
    refine (pick_any hi g p3 40 _ (R3.out.alloc _) (by omega) (by omega)).mono ?_
    rintro e w4 ⟨x4, rfl, _, hr4, hg4⟩
    have R4 := Lib.hid hr4
    have O4 := Lib.hid ((R3.out.alloc (.cells #[.int .i64 3, .slice (some ⟨w1.heap.size, 0, none⟩) 0 0, .string s, .int .i64 y] 30)).own (O3.out.alloc _) hg4)
    have K4 := Lib.hid ((K3.out.alloc (.cells #[.int .i64 3, .slice (some ⟨w1.heap.size, 0, none⟩) 0 0, .string s, .int .i64 y] 30)).grown hg4 (by intro h; injection h with h; omega))
    have G4 := Lib.hid (only_trans (only_alloc G3.out _) hg4)
    have X4 := Lib.hid ((Blk.new w3 30 #[.int .i64 3, .slice (some ⟨w1.heap.size, 0, none⟩) 0 0, .string s, .int .i64 y]).grown hg4 (by intro h; injection h with h; omega))
    have hz4 := X4.out.lt
    clear hr4 hg4
    by_cases hx4 : x4 = 0
    · subst hx4
      go_wp2_with fail
      refine (pick_any hi g (p3 + 1) 5 _ R4.out (by omega) (by omega)).mono ?_
      rintro e w5 ⟨x5, rfl, _, hr5, hg5⟩
      have R5 := Lib.hid hr5
      have O5 := Lib.hid (R4.out.own O4.out hg5)
      have K5 := K4.out.grown hg5 (by intro h; injection h with h; omega)
      have X5 := X4.out.grown hg5 (by intro h; injection h with h; omega)
      have G5 := Lib.hid (only_trans G4.out hg5)
      have X6 := X5.set_ 0 (.int .i64 x5)
      have K6 := K5.far (p := ⟨w3.heap.size, 0, none⟩) (show w.heap.size ≠ w3.heap.size by omega) (.int .i64 x5)
      have xf := X5.free 0
      have x0 : w5.cell? ⟨w3.heap.size, 0, none⟩ = some (.int .i64 3) := X5.cell 0
      have x1 : w5.cell? ⟨w3.heap.size, 1, none⟩ = some (.slice (some ⟨w1.heap.size, 0, none⟩) 0 0) := X5.cell 1
      have x2 : w5.cell? ⟨w3.heap.size, 2, none⟩ = some (.string s) := X5.cell 2
      have x3 : w5.cell? ⟨w3.heap.size, 3, none⟩ = some (.int .i64 y) := X5.cell 3
      have f0 := K5.free 0
      have f1 := K5.free 1
      have f2 := K5.free 2
      have f3 := K5.free 3
      have c0 : w5.cell? ⟨w.heap.size, 0, none⟩ = some (.int .i64 0) := K5.cell 0
      have c1 : w5.cell? ⟨w.heap.size, 1, none⟩ = some (.slice none 0 0) := K5.cell 1
      have c2 : w5.cell? ⟨w.heap.size, 2, none⟩ = some (.string .empty) := K5.cell 2
      have c3 : w5.cell? ⟨w.heap.size, 3, none⟩ = some (.int .i64 0) := K5.cell 3
      have n1 : w.heap.size ≠ w3.heap.size := by omega
      have n2 : w3.heap.size ≠ w.heap.size := by omega
      clear hr5 hg5 K5 X5 X6 K6
      go_wp2_with fail
      refine bodyPost_ret (v := .agg #[.int .i64 x5, .slice (some ⟨w1.heap.size, 0, none⟩) 0 0, .string s, .int .i64 y]) (by simp [results, Tryd.results17, go_sem, c0, c1, c2, c3]) rfl ?_
      exact ⟨x5, _, [], s, y, p3 + 1 + 1, rfl, ((O5.out.farN (B := w3.heap.size) (by simp [Value.ownBlock]; omega) _).set4 (Nat.lt_succ_self _)).more (by omega), by simp, hs, by omega, (R5.out.far (a := ⟨w3.heap.size, 0, none⟩) (by show g ≠ w3.heap.size; omega) (by show hi ≤ w3.heap.size; omega) _).set4 (by omega) (by omega), only_set4 (only_setCell (p := ⟨w3.heap.size, 0, none⟩) G5.out (.inr (by show w.heap.size ≤ w3.heap.size; omega)) _) (Nat.le_refl _)⟩
    · have hx4' : (x4 == 0) = false := by simpa using hx4
      have x0 : w4.cell? ⟨w3.heap.size, 0, none⟩ = some (.int .i64 3) := X4.out.cell 0
      have x1 : w4.cell? ⟨w3.heap.size, 1, none⟩ = some (.slice (some ⟨w1.heap.size, 0, none⟩) 0 0) := X4.out.cell 1
      have x2 : w4.cell? ⟨w3.heap.size, 2, none⟩ = some (.string s) := X4.out.cell 2
      have x3 : w4.cell? ⟨w3.heap.size, 3, none⟩ = some (.int .i64 y) := X4.out.cell 3
      have f0 := K4.out.free 0
      have f1 := K4.out.free 1
      have f2 := K4.out.free 2
      have f3 := K4.out.free 3
      have c0 : w4.cell? ⟨w.heap.size, 0, none⟩ = some (.int .i64 0) := K4.out.cell 0
      have c1 : w4.cell? ⟨w.heap.size, 1, none⟩ = some (.slice none 0 0) := K4.out.cell 1
      have c2 : w4.cell? ⟨w.heap.size, 2, none⟩ = some (.string .empty) := K4.out.cell 2
      have c3 : w4.cell? ⟨w.heap.size, 3, none⟩ = some (.int .i64 0) := K4.out.cell 3
      clear hx4
      go_wp2_with fail
      refine bodyPost_ret (v := .agg #[.int .i64 3, .slice (some ⟨w1.heap.size, 0, none⟩) 0 0, .string s, .int .i64 y]) (by simp [results, Tryd.results17, go_sem, c0, c1, c2, c3]) rfl ?_
      exact ⟨3, _, [], s, y, p3 + 1, rfl, (O4.out.set4 (Nat.lt_succ_self _)).more (by omega), by simp, hs, by omega, R4.out.set4 (by omega) (by omega), only_set4 G4.out (Nat.le_refl _)⟩
end Go.Proofs.YtpcflkdeoafpeaaDoor

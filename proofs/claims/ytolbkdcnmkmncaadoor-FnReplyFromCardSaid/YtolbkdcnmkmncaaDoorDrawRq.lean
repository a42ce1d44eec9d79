/-
  The drawn request: its address in memory of the call's own; the reader has gone on. Conditions: the reader's counter is small.
-/
import Derived.Test.YtolbkdcnmkmncaaDoorDrawAd2
namespace Go.Proofs.YtolbkdcnmkmncaaDoor
open Go.RowKit

/-- A struct's five cells are stored. -/
def set5 (w : World) (B : Nat) (x y z u v : Value) : World := (set4 w B x y z u).setCell ⟨B, 4, none⟩ v
theorem Own.set5 {w : World} {base B : Nat} {s x y z u v : Value} {zs : List Int} (h : Own w base s zs) (hb : B < base) : Own (Go.Proofs.YtolbkdcnmkmncaaDoor.set5 w B x y z u v) base s zs := (h.set4 hb).far hb v
theorem Rd6.set5 {w : World} {hi g p B : Nat} {x y z u v : Value} (h : Rd6 w hi g p) (hp : g ≠ B) (hh : hi ≤ B) : Rd6 (Go.Proofs.YtolbkdcnmkmncaaDoor.set5 w B x y z u v) hi g p :=
  (h.set4 hp hh).far (a := ⟨B, 4, none⟩) hp hh v
theorem only_set5 {a w : World} {g B : Nat} {x y z u v : Value} (h : a.grownBy w (some g)) (hB : a.heap.size ≤ B) : a.grownBy (Go.Proofs.YtolbkdcnmkmncaaDoor.set5 w B x y z u v) (some g) :=
  only_setCell (p := ⟨B, 4, none⟩) (only_set4 h hB) (.inr hB) v

/-- An own row's block is an old one. -/
theorem Own.old {w : World} {b0 : Nat} {u : Value} {us : List Int} (hu : Own w b0 u us) : u.ownBlock ≠ some w.heap.size := by
  rcases hu.2 with ⟨h0, _⟩ | ⟨g, cap, cur, he, _, hh, _⟩
  · subst h0
    simp [Value.ownBlock]
  · subst he
    have := (Array.getElem?_eq_some_iff.1 hh).1
    simp [Value.ownBlock]
    omega

/-- Behind a draw of a request. -/
def DrewRq (w : World) (hi g p : Nat) (e : Ending) (w' : World) : Prop :=
  ∃ c k q qs nm pt p', e = .returned (.agg #[.int .i64 c, .int .i64 k, q, .string nm, .int .i64 pt]) ∧ Own w' w.heap.size q qs ∧ qs.length ≤ 4 ∧ nm.size ≤ 21 ∧ p' ≤ p + 30 ∧ Rd6 w' hi g p' ∧ w.grownBy w' (some g)

set_option maxRecDepth 100000 in
set_option maxHeartbeats 8000000 in
theorem l92Request_any (hi g p : Nat) (w : World) (hr : Rd6 w hi g p) (hp : p ≤ 700000) :
    Calls Tryd.prog 67 #[.pointer (some ⟨g, 0, none⟩)] w fun e w' => DrewRq w hi g p e w' := by
  have hgw := hr.lt
  have hhi := hr.1
  have HR := Lib.hid hr
  clear hr
  go_enter Tryd.func67, Tryd.ntmps67
  go_wp2_with fail
  refine (pick_any hi g p 3 _ (HR.out.alloc _) (by omega) (by omega)).mono ?_
  rintro e w1 ⟨x, rfl, hx, hr1, hg1⟩
  obtain ⟨i, rfl, hi3⟩ := pick_lit 3 rfl (by omega) hx
  have hii : (i : Int) < 3 := by omega
  have R1 := Lib.hid hr1
  have G1 : Hid (w.grownBy w1 (some g)) := Lib.hid (only_trans (only_alloc (World.grownBy.refl w _) _) hg1)
  have K1 := Lib.hid ((Blk.new w 35 #[.int .i64 0, .int .i64 0, .slice none 0 0, .string .empty, .int .i64 0]).grown hg1 (by intro h; injection h with h; omega))
  have hz1 : w.heap.size < w1.heap.size := K1.out.lt
  clear hr1 hg1 hx
  go_wp2_with fail
  refine (l91Address_any hi g (p + 1) _ R1.out (by omega)).mono ?_
  rintro e w2 ⟨k, q, qs, nm, pt, p2, rfl, o2, l2, hs, hp2, hr2, hg2⟩
  obtain ⟨A, cq, rfl, hcq, hlq, _⟩ := o2.form
  have R2 := Lib.hid hr2
  have O2 := Lib.hid o2
  have K2 := Lib.hid (K1.out.grown hg2 (by intro h; injection h with h; omega))
  have G2 := Lib.hid (only_trans G1.out hg2)
  have hz2 := hg2.size
  have N2_ := o2.old
  clear hr2 o2 hg2
  go_wp2_with fail
  refine (pick_any hi g p2 2 _ (R2.out.alloc _) (by omega) (by omega)).mono ?_
  rintro e w3 ⟨x3, rfl, _, hr3, hg3⟩
  have R3 := Lib.hid hr3
  have O3 := Lib.hid ((R2.out.alloc (.cells #[.int .i64 (1 + i), .int .i64 k, .slice A qs.length cq, .string nm, .int .i64 pt] 35)).own (O2.out.alloc _) hg3)
  have K3 := Lib.hid ((K2.out.alloc (.cells #[.int .i64 (1 + i), .int .i64 k, .slice A qs.length cq, .string nm, .int .i64 pt] 35)).grown hg3 (by intro h; injection h with h; omega))
  have G3 := Lib.hid (only_trans (only_alloc G2.out _) hg3)
  have X3 := Lib.hid ((Blk.new w2 35 #[.int .i64 (1 + i), .int .i64 k, .slice A qs.length cq, .string nm, .int .i64 pt]).grown hg3 (by intro h; injection h with h; omega))
  have hz3 := X3.out.lt
  have N2 : Hid (Value.ownBlock (.slice A qs.length cq) ≠ some w2.heap.size) := Lib.hid N2_
  clear hr3 hg3 N2_
  by_cases hx : x3 = 0
  · subst hx
    have f3 := X3.out.free 0
    have e3 : w3.cell? ⟨w2.heap.size, 0, none⟩ = some (.int .i64 (1 + i)) := X3.out.cell 0
    go_wp2_with fail
    refine (pick_any hi g (p2 + 1) 30 _ (R3.out.far (a := ⟨w2.heap.size, 0, none⟩) (by dsimp only; omega) (by dsimp only; omega) _) (by omega) (by omega)).mono ?_
    rintro e w4 ⟨x4, rfl, _, hr4, hg4⟩
    have R4 := Lib.hid hr4
    have O4 := Lib.hid ((R3.out.far (a := ⟨w2.heap.size, 0, none⟩) (by dsimp only; omega) (by dsimp only; omega) _).own (O3.out.farN (B := w2.heap.size) N2.out _) hg4)
    have K4 := Lib.hid ((K3.out.far (p := ⟨w2.heap.size, 0, none⟩) (by dsimp only; omega) _).grown hg4 (by intro h; injection h with h; omega))
    have G4 := Lib.hid (only_trans (only_setCell (p := ⟨w2.heap.size, 0, none⟩) G3.out (.inr (by dsimp only; omega)) _) hg4)
    have X4 : Hid (Blk w4 w2.heap.size 35 #[.int .i64 1, .int .i64 k, .slice A qs.length cq, .string nm, .int .i64 pt]) := Lib.hid ((X3.out.set_ 0 (.int .i64 1)).grown hg4 (by intro h; injection h with h; omega))
    have hz4 := X4.out.lt
    have f4 := X4.out.free 0
    have d0 : w4.cell? ⟨w2.heap.size, 0, none⟩ = some (.int .i64 1) := X4.out.cell 0
    have d1 : w4.cell? ⟨w2.heap.size, 1, none⟩ = some (.int .i64 k) := X4.out.cell 1
    have d2 : w4.cell? ⟨w2.heap.size, 2, none⟩ = some (.slice A qs.length cq) := X4.out.cell 2
    have d3 : w4.cell? ⟨w2.heap.size, 3, none⟩ = some (.string nm) := X4.out.cell 3
    have d4 : w4.cell? ⟨w2.heap.size, 4, none⟩ = some (.int .i64 pt) := X4.out.cell 4
    clear hr4 hg4
    by_cases hy : x4 = 0
    · subst hy
      clear d0 d1 d2 d3 d4
      go_wp2_with fail
      refine (pick_any hi g (p2 + 1 + 1) 2 _ (R4.out.alloc _) (by omega) (by omega)).mono ?_
      rintro e w5 ⟨x5, rfl, hx5, hr5, hg5⟩
      obtain ⟨j, rfl, hj⟩ := pick_lit 2 rfl (by omega) hx5
      have cj := own_lit_cell (L := [0, 4]) (R4.out.alloc _) hg5 (by simp) (j := j) (by simpa using hj)
      obtain ⟨y, hy⟩ : ∃ y, ([0, 4] : List Int).getD j 0 = y := ⟨_, rfl⟩
      rw [hy] at cj
      have hji : (j : Int) < 2 := by omega
      have R5 := Lib.hid hr5
      have O5 := Lib.hid ((R4.out.alloc _).own (O4.out.alloc _) hg5)
      have K5 := (K4.out.alloc _).grown hg5 (by intro h; injection h with h; omega)
      have X5 := (X4.out.alloc _).grown hg5 (by intro h; injection h with h; omega)
      have G5 := Lib.hid (only_trans (only_alloc G4.out _) hg5)
      have xf := X5.free 0
      have x0 : w5.cell? ⟨w2.heap.size, 0, none⟩ = some (.int .i64 1) := X5.cell 0
      have x1 : w5.cell? ⟨w2.heap.size, 1, none⟩ = some (.int .i64 k) := X5.cell 1
      have x2 : w5.cell? ⟨w2.heap.size, 2, none⟩ = some (.slice A qs.length cq) := X5.cell 2
      have x3 : w5.cell? ⟨w2.heap.size, 3, none⟩ = some (.string nm) := X5.cell 3
      have x4 : w5.cell? ⟨w2.heap.size, 4, none⟩ = some (.int .i64 pt) := X5.cell 4
      have f0 := K5.free 0
      have f1 := K5.free 1
      have f2 := K5.free 2
      have f3 := K5.free 3
      have f4 := K5.free 4
      have c0 : w5.cell? ⟨w.heap.size, 0, none⟩ = some (.int .i64 0) := K5.cell 0
      have c1 : w5.cell? ⟨w.heap.size, 1, none⟩ = some (.int .i64 0) := K5.cell 1
      have c2 : w5.cell? ⟨w.heap.size, 2, none⟩ = some (.slice none 0 0) := K5.cell 2
      have c3 : w5.cell? ⟨w.heap.size, 3, none⟩ = some (.string .empty) := K5.cell 3
      have c4 : w5.cell? ⟨w.heap.size, 4, none⟩ = some (.int .i64 0) := K5.cell 4
      have n1 : w.heap.size ≠ w2.heap.size := by omega
      have n2 : w2.heap.size ≠ w.heap.size := by omega
      clear hr5 hg5 hx5 hy K5 X5
      go_wp2_with fail
      refine bodyPost_ret (v := .agg #[.int .i64 y, .int .i64 k, .slice A qs.length cq, .string nm, .int .i64 pt]) (by simp [results, Tryd.results67, go_sem, c0, c1, c2, c3, c4]) rfl ?_
      exact ⟨y, k, _, qs, nm, pt, p2 + 1 + 1 + 1, rfl, ((O5.out.farN (B := w2.heap.size) N2.out _).set5 hz1).more (by omega), l2, hs, by omega, (R5.out.far (a := ⟨w2.heap.size, 0, none⟩) (by dsimp only; omega) (by dsimp only; omega) _).set5 (by omega) (by omega), only_set5 (only_setCell (p := ⟨w2.heap.size, 0, none⟩) G5.out (.inr (by dsimp only; omega)) _) (Nat.le_refl _)⟩
    · have hy' : (x4 == 0) = false := by simpa using hy
      clear hy
      have f0 := K4.out.free 0
      have f1 := K4.out.free 1
      have f2 := K4.out.free 2
      have f3 := K4.out.free 3
      have f4 := K4.out.free 4
      have c0 : w4.cell? ⟨w.heap.size, 0, none⟩ = some (.int .i64 0) := K4.out.cell 0
      have c1 : w4.cell? ⟨w.heap.size, 1, none⟩ = some (.int .i64 0) := K4.out.cell 1
      have c2 : w4.cell? ⟨w.heap.size, 2, none⟩ = some (.slice none 0 0) := K4.out.cell 2
      have c3 : w4.cell? ⟨w.heap.size, 3, none⟩ = some (.string .empty) := K4.out.cell 3
      have c4 : w4.cell? ⟨w.heap.size, 4, none⟩ = some (.int .i64 0) := K4.out.cell 4
      go_wp2_with fail
      refine bodyPost_ret (v := .agg #[.int .i64 1, .int .i64 k, .slice A qs.length cq, .string nm, .int .i64 pt]) (by simp [results, Tryd.results67, go_sem, c0, c1, c2, c3, c4]) rfl ?_
      exact ⟨1, k, _, qs, nm, pt, p2 + 1 + 1, rfl, (O4.out.set5 hz1).more (by omega), l2, hs, by omega, R4.out.set5 (by omega) (by omega), only_set5 G4.out (Nat.le_refl _)⟩
  · have hx' : (x3 == 0) = false := by simpa using hx
    clear hx
    go_wp2_with fail
    refine (pick_any hi g (p2 + 1) 30 _ R3.out (by omega) (by omega)).mono ?_
    rintro e w4 ⟨x4, rfl, _, hr4, hg4⟩
    have R4 := Lib.hid hr4
    have O4 := Lib.hid (R3.out.own O3.out hg4)
    have K4 := Lib.hid (K3.out.grown hg4 (by intro h; injection h with h; omega))
    have G4 := Lib.hid (only_trans G3.out hg4)
    have X4 : Hid (Blk w4 w2.heap.size 35 #[.int .i64 (1 + i), .int .i64 k, .slice A qs.length cq, .string nm, .int .i64 pt]) := Lib.hid (X3.out.grown hg4 (by intro h; injection h with h; omega))
    have hz4 := X4.out.lt
    have f4 := X4.out.free 0
    have d0 : w4.cell? ⟨w2.heap.size, 0, none⟩ = some (.int .i64 (1 + i)) := X4.out.cell 0
    have d1 : w4.cell? ⟨w2.heap.size, 1, none⟩ = some (.int .i64 k) := X4.out.cell 1
    have d2 : w4.cell? ⟨w2.heap.size, 2, none⟩ = some (.slice A qs.length cq) := X4.out.cell 2
    have d3 : w4.cell? ⟨w2.heap.size, 3, none⟩ = some (.string nm) := X4.out.cell 3
    have d4 : w4.cell? ⟨w2.heap.size, 4, none⟩ = some (.int .i64 pt) := X4.out.cell 4
    clear hr4 hg4
    by_cases hy : x4 = 0
    · subst hy
      clear d0 d1 d2 d3 d4
      go_wp2_with fail
      refine (pick_any hi g (p2 + 1 + 1) 2 _ (R4.out.alloc _) (by omega) (by omega)).mono ?_
      rintro e w5 ⟨x5, rfl, hx5, hr5, hg5⟩
      obtain ⟨j, rfl, hj⟩ := pick_lit 2 rfl (by omega) hx5
      have cj := own_lit_cell (L := [0, 4]) (R4.out.alloc _) hg5 (by simp) (j := j) (by simpa using hj)
      obtain ⟨y, hy⟩ : ∃ y, ([0, 4] : List Int).getD j 0 = y := ⟨_, rfl⟩
      rw [hy] at cj
      have hji : (j : Int) < 2 := by omega
      have R5 := Lib.hid hr5
      have O5 := Lib.hid ((R4.out.alloc _).own (O4.out.alloc _) hg5)
      have K5 := (K4.out.alloc _).grown hg5 (by intro h; injection h with h; omega)
      have X5 := (X4.out.alloc _).grown hg5 (by intro h; injection h with h; omega)
      have G5 := Lib.hid (only_trans (only_alloc G4.out _) hg5)
      have xf := X5.free 0
      have x0 : w5.cell? ⟨w2.heap.size, 0, none⟩ = some (.int .i64 (1 + i)) := X5.cell 0
      have x1 : w5.cell? ⟨w2.heap.size, 1, none⟩ = some (.int .i64 k) := X5.cell 1
      have x2 : w5.cell? ⟨w2.heap.size, 2, none⟩ = some (.slice A qs.length cq) := X5.cell 2
      have x3 : w5.cell? ⟨w2.heap.size, 3, none⟩ = some (.string nm) := X5.cell 3
      have x4 : w5.cell? ⟨w2.heap.size, 4, none⟩ = some (.int .i64 pt) := X5.cell 4
      have f0 := K5.free 0
      have f1 := K5.free 1
      have f2 := K5.free 2
      have f3 := K5.free 3
      have f4 := K5.free 4
      have c0 : w5.cell? ⟨w.heap.size, 0, none⟩ = some (.int .i64 0) := K5.cell 0
      have c1 : w5.cell? ⟨w.heap.size, 1, none⟩ = some (.int .i64 0) := K5.cell 1
      have c2 : w5.cell? ⟨w.heap.size, 2, none⟩ = some (.slice none 0 0) := K5.cell 2
      have c3 : w5.cell? ⟨w.heap.size, 3, none⟩ = some (.string .empty) := K5.cell 3
      have c4 : w5.cell? ⟨w.heap.size, 4, none⟩ = some (.int .i64 0) := K5.cell 4
      have n1 : w.heap.size ≠ w2.heap.size := by omega
      have n2 : w2.heap.size ≠ w.heap.size := by omega
      clear hr5 hg5 hx5 hy K5 X5
      go_wp2_with fail
      refine bodyPost_ret (v := .agg #[.int .i64 y, .int .i64 k, .slice A qs.length cq, .string nm, .int .i64 pt]) (by simp [results, Tryd.results67, go_sem, c0, c1, c2, c3, c4]) rfl ?_
      exact ⟨y, k, _, qs, nm, pt, p2 + 1 + 1 + 1, rfl, ((O5.out.farN (B := w2.heap.size) N2.out _).set5 hz1).more (by omega), l2, hs, by omega, (R5.out.far (a := ⟨w2.heap.size, 0, none⟩) (by dsimp only; omega) (by dsimp only; omega) _).set5 (by omega) (by omega), only_set5 (only_setCell (p := ⟨w2.heap.size, 0, none⟩) G5.out (.inr (by dsimp only; omega)) _) (Nat.le_refl _)⟩
    · have hy' : (x4 == 0) = false := by simpa using hy
      clear hy
      have f0 := K4.out.free 0
      have f1 := K4.out.free 1
      have f2 := K4.out.free 2
      have f3 := K4.out.free 3
      have f4 := K4.out.free 4
      have c0 : w4.cell? ⟨w.heap.size, 0, none⟩ = some (.int .i64 0) := K4.out.cell 0
      have c1 : w4.cell? ⟨w.heap.size, 1, none⟩ = some (.int .i64 0) := K4.out.cell 1
      have c2 : w4.cell? ⟨w.heap.size, 2, none⟩ = some (.slice none 0 0) := K4.out.cell 2
      have c3 : w4.cell? ⟨w.heap.size, 3, none⟩ = some (.string .empty) := K4.out.cell 3
      have c4 : w4.cell? ⟨w.heap.size, 4, none⟩ = some (.int .i64 0) := K4.out.cell 4
      go_wp2_with fail
      refine bodyPost_ret (v := .agg #[.int .i64 (1 + i), .int .i64 k, .slice A qs.length cq, .string nm, .int .i64 pt]) (by simp [results, Tryd.results67, go_sem, c0, c1, c2, c3, c4]) rfl ?_
      exact ⟨(1 + i), k, _, qs, nm, pt, p2 + 1 + 1, rfl, (O4.out.set5 hz1).more (by omega), l2, hs, by omega, R4.out.set5 (by omega) (by omega), only_set5 G4.out (Nat.le_refl _)⟩
end Go.Proofs.YtolbkdcnmkmncaaDoor

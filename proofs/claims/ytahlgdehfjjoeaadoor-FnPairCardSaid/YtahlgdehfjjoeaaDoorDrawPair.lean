/-
  The drawn pair of addresses. Conditions: the reader's counter is small.
-/
import Derived.Test.YtahlgdehfjjoeaaDoorDrawAd2
import Derived.Deep.RegionHeld3
import Derived.Deep.CutRange
namespace Go.Proofs.YtahlgdehfjjoeaaDoor
open Go.RowKit

/-- A struct of eight cells is stored. -/
def set8 (w : World) (B : Nat) (x y z u a b c d : Value) : World := ((((set4 w B x y z u).setCell ⟨B, 4, none⟩ a).setCell ⟨B, 5, none⟩ b).setCell ⟨B, 6, none⟩ c).setCell ⟨B, 7, none⟩ d
theorem Own.set8 {w : World} {base B : Nat} {v x y z u a b c d : Value} {zs : List Int} (h : Own w base v zs) (hb : B < base) : Own (Go.Proofs.YtahlgdehfjjoeaaDoor.set8 w B x y z u a b c d) base v zs := ((((h.set4 hb).far hb a).far hb b).far hb c).far hb d
theorem Rd6.set8 {w : World} {hi g p B : Nat} {x y z u a b c d : Value} (h : Rd6 w hi g p) (hp : g ≠ B) (hh : hi ≤ B) : Rd6 (Go.Proofs.YtahlgdehfjjoeaaDoor.set8 w B x y z u a b c d) hi g p :=
  ((((h.set4 hp hh).far (a := ⟨B, 4, none⟩) hp hh a).far (a := ⟨B, 5, none⟩) hp hh b).far (a := ⟨B, 6, none⟩) hp hh c).far (a := ⟨B, 7, none⟩) hp hh d
theorem only_set8 {s w : World} {g B : Nat} {x y z u a b c d : Value} (h : s.grownBy w (some g)) (hB : s.heap.size ≤ B) : s.grownBy (Go.Proofs.YtahlgdehfjjoeaaDoor.set8 w B x y z u a b c d) (some g) :=
  only_setCell (p := ⟨B, 7, none⟩) (only_setCell (p := ⟨B, 6, none⟩) (only_setCell (p := ⟨B, 5, none⟩) (only_setCell (p := ⟨B, 4, none⟩) (only_set4 h hB) (.inr hB) a) (.inr hB) b) (.inr hB) c) (.inr hB) d
theorem below_set8 {w W : World} {g : Nat} (h : Below w.heap.size w W) (hg : w.heap.size ≤ g) (x y z u a b c d : Value) : Below w.heap.size w (Go.Proofs.YtahlgdehfjjoeaaDoor.set8 W g x y z u a b c d) :=
  (((((((h.setCell (p := ⟨g, 0, none⟩) hg x).setCell (p := ⟨g, 1, none⟩) hg y).setCell (p := ⟨g, 2, none⟩) hg z).setCell (p := ⟨g, 3, none⟩) hg u).setCell (p := ⟨g, 4, none⟩) hg a).setCell (p := ⟨g, 5, none⟩) hg b).setCell (p := ⟨g, 6, none⟩) hg c).setCell (p := ⟨g, 7, none⟩) hg d

theorem Blk.set8_ {w : World} {g : Nat} {t : TypeId} {a b c d e f h i : Value} (H : Blk w g t #[a, b, c, d, e, f, h, i]) (x y z u p q r s : Value) : Blk (Go.Proofs.YtahlgdehfjjoeaaDoor.set8 w g x y z u p q r s) g t #[x, y, z, u, p, q, r, s] := by
  have h0 : Blk _ g t #[x, b, c, d, e, f, h, i] := H.set_ 0 x
  have h1 : Blk _ g t #[x, y, c, d, e, f, h, i] := h0.set_ 1 y
  have h2 : Blk _ g t #[x, y, z, d, e, f, h, i] := h1.set_ 2 z
  have h3 : Blk _ g t #[x, y, z, u, e, f, h, i] := h2.set_ 3 u
  have h4 : Blk _ g t #[x, y, z, u, p, f, h, i] := h3.set_ 4 p
  have h5 : Blk _ g t #[x, y, z, u, p, q, h, i] := h4.set_ 5 q
  have h6 : Blk _ g t #[x, y, z, u, p, q, r, i] := h5.set_ 6 r
  exact h6.set_ 7 s
/-- Four cells of another block. -/
def Four (W : World) (B : Nat) (x y z u : Value) : Prop := W.cell? ⟨B, 0, none⟩ = some x ∧ W.cell? ⟨B, 1, none⟩ = some y ∧ W.cell? ⟨B, 2, none⟩ = some z ∧ W.cell? ⟨B, 3, none⟩ = some u
theorem four_set {W : World} {B C i : Nat} {x y z u v : Value} (h : W.cell? ⟨B, 0, none⟩ = some x ∧ W.cell? ⟨B, 1, none⟩ = some y ∧ W.cell? ⟨B, 2, none⟩ = some z ∧ W.cell? ⟨B, 3, none⟩ = some u) (hb : B ≠ C) :
    (W.setCell ⟨C, i, none⟩ v).cell? ⟨B, 0, none⟩ = some x ∧ (W.setCell ⟨C, i, none⟩ v).cell? ⟨B, 1, none⟩ = some y ∧ (W.setCell ⟨C, i, none⟩ v).cell? ⟨B, 2, none⟩ = some z ∧ (W.setCell ⟨C, i, none⟩ v).cell? ⟨B, 3, none⟩ = some u := by
  have hk := Below.heap_setCell W ⟨C, i, none⟩ v B hb
  exact ⟨(World.cell?_of_block (a := ⟨B, 0, none⟩) hk).trans h.1, (World.cell?_of_block (a := ⟨B, 1, none⟩) hk).trans h.2.1, (World.cell?_of_block (a := ⟨B, 2, none⟩) hk).trans h.2.2.1, (World.cell?_of_block (a := ⟨B, 3, none⟩) hk).trans h.2.2.2⟩
theorem Blk.farSet8 {w : World} {g B : Nat} {t : TypeId} {cs : Array Value} (h : Blk w g t cs) (hb : g ≠ B) (x y z u a b c d : Value) : Blk (Go.Proofs.YtahlgdehfjjoeaaDoor.set8 w B x y z u a b c d) g t cs :=
  (((((((h.far (p := ⟨B, 0, none⟩) hb x).far (p := ⟨B, 1, none⟩) hb y).far (p := ⟨B, 2, none⟩) hb z).far (p := ⟨B, 3, none⟩) hb u).far (p := ⟨B, 4, none⟩) hb a).far (p := ⟨B, 5, none⟩) hb b).far (p := ⟨B, 6, none⟩) hb c).far (p := ⟨B, 7, none⟩) hb d
/-- Behind a draw of a pair. -/
def DrewPr (w : World) (hi g p : Nat) (e : Ending) (w' : World) : Prop :=
  ∃ k1 q1 qs1 m1 p1 k2 q2 qs2 m2 p2 p', e = .returned (.agg #[.int .i64 k1, q1, .string m1, .int .i64 p1, .int .i64 k2, q2, .string m2, .int .i64 p2]) ∧ Own w' w.heap.size q1 qs1 ∧ m1.size ≤ 21 ∧ Own w' w.heap.size q2 qs2 ∧ m2.size ≤ 21 ∧ p' ≤ p + 60 ∧ Rd6 w' hi g p' ∧ w.grownBy w' (some g)

set_option maxRecDepth 100000 in
set_option maxHeartbeats 4000000 in
theorem l92Pair_any (hi g p : Nat) (w : World) (hr : Rd6 w hi g p) (hp : p ≤ 600000) : Calls Tryd.prog 51 #[.pointer (some ⟨g, 0, none⟩)] w fun e w' => DrewPr w hi g p e w' := by
  have hgw := hr.lt
  have hhi := hr.1
  have HR := Lib.hid hr
  clear hr
  go_enter Tryd.func51, Tryd.ntmps51
  go_wp2_with fail
  refine (l91Quad_any hi g p _ (HR.out.alloc _) (by omega)).mono ?_
  rintro e w1 ⟨q1, qs1, s1, rfl, o1, l1, hs1, hr1, hg1⟩
  obtain ⟨A1, c1, rfl, _, _, _⟩ := o1.form
  have R1 := Lib.hid hr1
  have O1 := Lib.hid (o1.more (base' := w.heap.size + 1) (by simp))
  have K1 := Lib.hid ((Blk.new w 27 #[.int .i64 0, .slice none 0 0, .string .empty, .int .i64 0, .int .i64 0, .slice none 0 0, .string .empty, .int .i64 0]).grown hg1 (by intro h; injection h with h; omega))
  have G1 : Hid (w.grownBy w1 (some g)) := Lib.hid (only_trans (only_alloc (World.grownBy.refl w _) _) hg1)
  have z1 : w.heap.size < w1.heap.size := K1.out.lt
  clear hr1 o1 hg1
  go_wp2_with fail
  refine (l91Port_any hi g s1 _ R1.out (by omega)).mono ?_
  rintro e w2 ⟨x2, s2, rfl, hs2, hr2, hg2⟩
  obtain ⟨V2, hV2⟩ : ∃ V2, w2.alloc (.cells #[.int .i64 1, .slice A1 qs1.length c1, .string ⟨#[]⟩, .int .i64 x2] 25) = V2 := ⟨_, rfl⟩
  have R2 : Hid (Rd6 V2 hi g s2) := Lib.hid (by rw [← hV2]; exact hr2.alloc _)
  have O2 : Hid (Own V2 (w.heap.size + 1) (.slice A1 qs1.length c1) qs1) := Lib.hid (by rw [← hV2]; exact (R1.out.own O1.out hg2).alloc _)
  have K2 : Hid (Blk V2 w.heap.size 27 #[.int .i64 0, .slice none 0 0, .string .empty, .int .i64 0, .int .i64 0, .slice none 0 0, .string .empty, .int .i64 0]) := Lib.hid (by rw [← hV2]; exact (K1.out.grown hg2 (by intro h; injection h with h; omega)).alloc _)
  have X2 : Hid (Blk V2 w2.heap.size 25 #[.int .i64 1, .slice A1 qs1.length c1, .string ⟨#[]⟩, .int .i64 x2]) := Lib.hid (by rw [← hV2]; exact Blk.new _ _ _)
  have G2 : Hid (w.grownBy V2 (some g)) := Lib.hid (by rw [← hV2]; exact only_alloc (only_trans G1.out hg2) _)
  have z2 : w.heap.size < w2.heap.size := by have := hg2.size; omega
  clear hr2 hg2 R1 O1 K1 G1
  go_wp2_with fail
  clear hV2
  refine (l91Quad_any hi g s2 _ R2.out (by omega)).mono ?_
  rintro e w3 ⟨q3, qs3, s3, rfl, o3, l3, hs3, hr3, hg3⟩
  obtain ⟨A3, c3, rfl, _, _, _⟩ := o3.form
  have R3 := Lib.hid hr3
  have O23 := Lib.hid (R2.out.own O2.out hg3)
  have O3 := Lib.hid (o3.more (base' := w.heap.size + 1) (by have := K2.out.lt; omega))
  have K3 := Lib.hid (K2.out.grown hg3 (by intro h; injection h with h; omega))
  have X3 := Lib.hid (X2.out.grown hg3 (by intro h; injection h with h; omega))
  have G3 := Lib.hid (only_trans G2.out hg3)
  have z3 : w2.heap.size < w3.heap.size := X3.out.lt
  clear hr3 o3 hg3 R2 O2 K2 X2 G2
  go_wp2_with fail
  refine (l91Port_any hi g s3 _ R3.out (by omega)).mono ?_
  rintro e w4 ⟨x4, s4, rfl, hs4, hr4, hg4⟩
  obtain ⟨V4, hV4⟩ : ∃ V4, w4.alloc (.cells #[.int .i64 1, .slice A3 qs3.length c3, .string ⟨#[]⟩, .int .i64 x4] 25) = V4 := ⟨_, rfl⟩
  have R4 : Hid (Rd6 V4 hi g s4) := Lib.hid (by rw [← hV4]; exact hr4.alloc _)
  have O24 : Hid (Own V4 (w.heap.size + 1) (.slice A1 qs1.length c1) qs1) := Lib.hid (by rw [← hV4]; exact (R3.out.own O23.out hg4).alloc _)
  have O4 : Hid (Own V4 (w.heap.size + 1) (.slice A3 qs3.length c3) qs3) := Lib.hid (by rw [← hV4]; exact (R3.out.own O3.out hg4).alloc _)
  have K4 : Hid (Blk V4 w.heap.size 27 #[.int .i64 0, .slice none 0 0, .string .empty, .int .i64 0, .int .i64 0, .slice none 0 0, .string .empty, .int .i64 0]) := Lib.hid (by rw [← hV4]; exact (K3.out.grown hg4 (by intro h; injection h with h; omega)).alloc _)
  have X4 : Hid (Blk V4 w2.heap.size 25 #[.int .i64 1, .slice A1 qs1.length c1, .string ⟨#[]⟩, .int .i64 x2]) := Lib.hid (by rw [← hV4]; exact (X3.out.grown hg4 (by intro h; injection h with h; omega)).alloc _)
  have Y4 : Hid (Blk V4 w4.heap.size 25 #[.int .i64 1, .slice A3 qs3.length c3, .string ⟨#[]⟩, .int .i64 x4]) := Lib.hid (by rw [← hV4]; exact Blk.new _ _ _)
  have G4 : Hid (w.grownBy V4 (some g)) := Lib.hid (by rw [← hV4]; exact only_alloc (only_trans G3.out hg4) _)
  have z4 : w2.heap.size < w4.heap.size := by have := hg4.size; omega
  clear hr4 hg4 R3 O23 O3 K3 X3 G3
  go_wp2_with fail
  clear hV4
  refine (pick_any hi g s4 20 _ R4.out (by omega) (by omega)).mono ?_
  rintro e w5 ⟨x5, rfl, _, hr5, hg5⟩
  have R5 := Lib.hid hr5
  have O25 := Lib.hid (R4.out.own O24.out hg5)
  have O5 := Lib.hid (R4.out.own O4.out hg5)
  have K5 := Lib.hid (K4.out.grown hg5 (by intro h; injection h with h; omega))
  have X5 := Lib.hid (X4.out.grown hg5 (by intro h; injection h with h; omega))
  have Y5 := Lib.hid (Y4.out.grown hg5 (by intro h; injection h with h; omega))
  have G5 := Lib.hid (only_trans G4.out hg5)
  have z5 : w4.heap.size < w5.heap.size := Y5.out.lt
  clear hr5 hg5 R4 O24 O4 K4 X4 Y4 G4
  have x0 : w5.cell? ⟨w2.heap.size, 0, none⟩ = some (.int .i64 1) := X5.out.cell 0
  have x1 : w5.cell? ⟨w2.heap.size, 1, none⟩ = some (.slice A1 qs1.length c1) := X5.out.cell 1
  have x2' : w5.cell? ⟨w2.heap.size, 2, none⟩ = some (.string ⟨#[]⟩) := X5.out.cell 2
  have x3 : w5.cell? ⟨w2.heap.size, 3, none⟩ = some (.int .i64 x2) := X5.out.cell 3
  by_cases hx : x5 = 0
  · subst hx
    go_upto_region 4 with fail
    go_cut [] from 18 to 21 (fun wx => ∃ k q qs nm pt s6, Blk wx w.heap.size 27 #[.int .i64 1, .slice A1 qs1.length c1, .string ⟨#[]⟩, .int .i64 x2, .int .i64 k, q, .string nm, .int .i64 pt] ∧ Own wx (w.heap.size + 1) (.slice A1 qs1.length c1) qs1 ∧ Own wx (w.heap.size + 1) q qs ∧ nm.size ≤ 21 ∧ s6 ≤ s4 + 21 ∧ Rd6 wx hi g s6 ∧ w.grownBy wx (some g))
    case first =>
      have S0 : Hid (w5.drew.cell? ⟨w2.heap.size, 0, none⟩ = some (.int .i64 1) ∧ w5.drew.cell? ⟨w2.heap.size, 1, none⟩ = some (.slice A1 qs1.length c1) ∧ w5.drew.cell? ⟨w2.heap.size, 2, none⟩ = some (.string ⟨#[]⟩) ∧ w5.drew.cell? ⟨w2.heap.size, 3, none⟩ = some (.int .i64 x2)) := Lib.hid ⟨x0, x1, x2', x3⟩
      have n0 : w2.heap.size ≠ w.heap.size := by omega
      go_region_held3 (fun W => W.cell? ⟨w2.heap.size, 0, none⟩ = some (.int .i64 1) ∧ W.cell? ⟨w2.heap.size, 1, none⟩ = some (.slice A1 qs1.length c1) ∧ W.cell? ⟨w2.heap.size, 2, none⟩ = some (.string ⟨#[]⟩) ∧ W.cell? ⟨w2.heap.size, 3, none⟩ = some (.int .i64 x2))
        (first | with_reducible exact S0.out | with_reducible exact S6.out | with_reducible exact four_set (four_set (four_set (four_set (four_set (four_set (four_set (four_set S6.out n0) n0) n0) n0) n0) n0) n0) n0)
        (first
          | (go_at_call 50; go_loud (refine (l91Address_any hi g (s4 + 1) _ (R5.out.drewN 1) (by omega)).mono ?_); go_loud (rintro e w6 ⟨k, q, qs, nm, pt, s6, rfl, o6, l6, hm6, hs6, hr6, hg6⟩); go_loud (obtain ⟨A6, c6, rfl, _, _, _⟩ := o6.form); go_loud (have X6 := Lib.hid ((X5.out.drewN 1).grown hg6 (by intro h; injection h with h; omega))); go_loud (have K6 := Lib.hid ((K5.out.drewN 1).grown hg6 (by intro h; injection h with h; omega))); go_loud (have R6 := Lib.hid hr6); go_loud (have O26 := Lib.hid ((R5.out.drewN 1).own (O25.out.drewN 1) hg6)); go_loud (have O6 := Lib.hid o6); go_loud (have G6 := Lib.hid (only_trans (only_drewN G5.out 1) hg6)); go_loud (have z6 : w5.heap.size ≤ w6.heap.size := hg6.size); go_loud (have S6 : Hid (w6.cell? ⟨w2.heap.size, 0, none⟩ = some (.int .i64 1) ∧ w6.cell? ⟨w2.heap.size, 1, none⟩ = some (.slice A1 qs1.length c1) ∧ w6.cell? ⟨w2.heap.size, 2, none⟩ = some (.string ⟨#[]⟩) ∧ w6.cell? ⟨w2.heap.size, 3, none⟩ = some (.int .i64 x2)) := Lib.hid ⟨X6.out.cell 0, X6.out.cell 1, X6.out.cell 2, X6.out.cell 3⟩);
             go_loud (have r0 : w6.cell? ⟨w.heap.size, 0, none⟩ = some (.int .i64 0) := K6.out.cell 0); go_loud (have r1 : w6.cell? ⟨w.heap.size, 1, none⟩ = some (.slice none 0 0) := K6.out.cell 1); go_loud (have r2 : w6.cell? ⟨w.heap.size, 2, none⟩ = some (.string .empty) := K6.out.cell 2); go_loud (have r3 : w6.cell? ⟨w.heap.size, 3, none⟩ = some (.int .i64 0) := K6.out.cell 3); go_loud (have r4 : w6.cell? ⟨w.heap.size, 4, none⟩ = some (.int .i64 0) := K6.out.cell 4); go_loud (have r5 : w6.cell? ⟨w.heap.size, 5, none⟩ = some (.slice none 0 0) := K6.out.cell 5); go_loud (have r6 : w6.cell? ⟨w.heap.size, 6, none⟩ = some (.string .empty) := K6.out.cell 6); go_loud (have r7 : w6.cell? ⟨w.heap.size, 7, none⟩ = some (.int .i64 0) := K6.out.cell 7);
             go_loud (have f0 := K6.out.free 0); go_loud (have f1 := K6.out.free 1); go_loud (have f2 := K6.out.free 2); go_loud (have f3 := K6.out.free 3); go_loud (have f4 := K6.out.free 4); go_loud (have f5 := K6.out.free 5); go_loud (have f6 := K6.out.free 6); go_loud (have f7 := K6.out.free 7))
          | fail)
      all_goals
        go_wp2_with fail
        go_meet
        exact ⟨k, _, qs, nm, pt, s6, K6.out.set8_ _ _ _ _ _ _ _ _, (O26.out.set8 (Nat.lt_succ_self _)), (O6.out.set8 (show w.heap.size < w5.heap.size by omega)).more (show w.heap.size + 1 ≤ w5.heap.size by omega), hm6, by omega, R6.out.set8 (by omega) (by omega), only_set8 G6.out (Nat.le_refl _)⟩
    case rest =>
      obtain ⟨k, q, qs, nm, pt, s6, kx, oa, ob, hm, hs6, rx, gx⟩ := hcut
      obtain ⟨A6, c6, rfl, _, _, _⟩ := ob.form
      have OA := Lib.hid oa
      have OB := Lib.hid ob
      have RX := Lib.hid rx
      have GX := Lib.hid gx
      have r0 : wc.cell? ⟨w.heap.size, 0, none⟩ = some (.int .i64 1) := kx.cell 0
      have r1 : wc.cell? ⟨w.heap.size, 1, none⟩ = some (.slice A1 qs1.length c1) := kx.cell 1
      have r2 : wc.cell? ⟨w.heap.size, 2, none⟩ = some (.string ⟨#[]⟩) := kx.cell 2
      have r3 : wc.cell? ⟨w.heap.size, 3, none⟩ = some (.int .i64 x2) := kx.cell 3
      have r4 : wc.cell? ⟨w.heap.size, 4, none⟩ = some (.int .i64 k) := kx.cell 4
      have r5 : wc.cell? ⟨w.heap.size, 5, none⟩ = some (.slice A6 qs.length c6) := kx.cell 5
      have r6 : wc.cell? ⟨w.heap.size, 6, none⟩ = some (.string nm) := kx.cell 6
      have r7 : wc.cell? ⟨w.heap.size, 7, none⟩ = some (.int .i64 pt) := kx.cell 7
      clear kx oa ob rx gx
      go_wp2_with fail
      refine bodyPost_ret (v := .agg #[.int .i64 1, .slice A1 qs1.length c1, .string ⟨#[]⟩, .int .i64 x2, .int .i64 k, .slice A6 qs.length c6, .string nm, .int .i64 pt]) (by simp [results, Tryd.results51, go_sem, r0, r1, r2, r3, r4, r5, r6, r7]) rfl ?_
      exact ⟨1, _, qs1, ⟨#[]⟩, x2, k, _, qs, nm, pt, s6, rfl, OA.out.more (Nat.le_succ _), (show (0 : Nat) ≤ 21 by omega), OB.out.more (Nat.le_succ _), hm, by omega, RX.out, GX.out⟩
  · have hx' : (x5 == 0) = false := by simpa using hx
    have y0 : w5.cell? ⟨w4.heap.size, 0, none⟩ = some (.int .i64 1) := Y5.out.cell 0
    have y1 : w5.cell? ⟨w4.heap.size, 1, none⟩ = some (.slice A3 qs3.length c3) := Y5.out.cell 1
    have y2 : w5.cell? ⟨w4.heap.size, 2, none⟩ = some (.string ⟨#[]⟩) := Y5.out.cell 2
    have y3 : w5.cell? ⟨w4.heap.size, 3, none⟩ = some (.int .i64 x4) := Y5.out.cell 3
    have r0 : w5.cell? ⟨w.heap.size, 0, none⟩ = some (.int .i64 0) := K5.out.cell 0
    have r1 : w5.cell? ⟨w.heap.size, 1, none⟩ = some (.slice none 0 0) := K5.out.cell 1
    have r2 : w5.cell? ⟨w.heap.size, 2, none⟩ = some (.string .empty) := K5.out.cell 2
    have r3 : w5.cell? ⟨w.heap.size, 3, none⟩ = some (.int .i64 0) := K5.out.cell 3
    have r4 : w5.cell? ⟨w.heap.size, 4, none⟩ = some (.int .i64 0) := K5.out.cell 4
    have r5 : w5.cell? ⟨w.heap.size, 5, none⟩ = some (.slice none 0 0) := K5.out.cell 5
    have r6 : w5.cell? ⟨w.heap.size, 6, none⟩ = some (.string .empty) := K5.out.cell 6
    have r7 : w5.cell? ⟨w.heap.size, 7, none⟩ = some (.int .i64 0) := K5.out.cell 7
    have f0 := K5.out.free 0
    have f1 := K5.out.free 1
    have f2 := K5.out.free 2
    have f3 := K5.out.free 3
    have f4 := K5.out.free 4
    have f5 := K5.out.free 5
    have f6 := K5.out.free 6
    have f7 := K5.out.free 7
    clear hx
    go_wp2_with fail
    refine bodyPost_ret (v := .agg #[.int .i64 1, .slice A1 qs1.length c1, .string ⟨#[]⟩, .int .i64 x2, .int .i64 1, .slice A3 qs3.length c3, .string ⟨#[]⟩, .int .i64 x4]) (by simp [results, Tryd.results51, go_sem, r0, r1, r2, r3, r4, r5, r6, r7]) rfl ?_
    exact ⟨1, _, qs1, ⟨#[]⟩, x2, 1, _, qs3, ⟨#[]⟩, x4, s4 + 1, rfl, (O25.out.set8 (Nat.lt_succ_self _)).more (Nat.le_succ _), (show (0 : Nat) ≤ 21 by omega), (O5.out.set8 (Nat.lt_succ_self _)).more (Nat.le_succ _), (show (0 : Nat) ≤ 21 by omega), by omega, R5.out.set8 (by omega) (by omega), only_set8 G5.out (Nat.le_refl _)⟩
end Go.Proofs.YtahlgdehfjjoeaaDoor

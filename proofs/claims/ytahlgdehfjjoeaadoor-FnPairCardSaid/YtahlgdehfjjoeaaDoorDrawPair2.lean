/-
  The pair drawn from a code. Conditions: none.
-/
import Derived.Test.YtahlgdehfjjoeaaDoorDrawPair
namespace Go.Proofs.YtahlgdehfjjoeaaDoor
open Go.RowKit

/-- Behind a pair drawn from a code. -/
def DrewPr1 (w : World) (e : Ending) (w' : World) : Prop :=
  ∃ k1 q1 qs1 m1 p1 k2 q2 qs2 m2 p2, e = .returned (.agg #[.int .i64 k1, q1, .string m1, .int .i64 p1, .int .i64 k2, q2, .string m2, .int .i64 p2]) ∧ Own w' w.heap.size q1 qs1 ∧ m1.size ≤ 21 ∧ Own w' w.heap.size q2 qs2 ∧ m2.size ≤ 21 ∧ Below w.heap.size w w'

set_option maxRecDepth 100000 in
set_option maxHeartbeats 4000000 in
theorem DrawPairValid_any (v : Value) (bs : List Int) (w : World) (hv : Came .u8 w w.heap.size v bs) : Calls Tryd.prog 15 #[v] w fun e w' => DrewPr1 w e w' := by
  go_enter Tryd.func15, Tryd.ntmps15
  go_wp2_with fail
  refine (l6Open_any _ bs w.heap.size _ (hv.keep fun b hb => Below.heap_alloc w _ b hb) (by simp)).mono ?_
  rintro e w1 ⟨rfl, r1, b1⟩
  simp only [World.size_alloc] at r1 b1 ⊢
  have K1 := Lib.hid ((Blk.new w 27 #[.int .i64 0, .slice none 0 0, .string .empty, .int .i64 0, .int .i64 0, .slice none 0 0, .string .empty, .int .i64 0]).below b1 (Nat.lt_succ_self _))
  have R1 := Lib.hid r1
  have B1 : Hid (Below w.heap.size w w1) := Lib.hid (((Below.refl _ _).alloc (Nat.le_refl _) _).trans (b1.mono (Nat.le_succ _)))
  have z1 := b1.size
  simp at z1
  have z1' := R1.out.lt
  clear r1 b1
  go_wp2_with fail
  refine (pick_any w.heap.size (w.heap.size + 1) 0 3 _ R1.out (by omega) (by omega)).mono ?_
  rintro e w2 ⟨x, rfl, _, r2, g2⟩
  have R2 := Lib.hid r2
  have K2 := Lib.hid (K1.out.grown g2 (by intro h; injection h with h; omega))
  have B2 := Lib.hid (below_only B1.out g2 (by omega) (Nat.le_succ _))
  have z2 := g2.size
  clear r2 g2 R1 K1 B1
  by_cases hx : x = 0
  · subst hx
    go_wp2_with fail
    refine (l91Address_any w.heap.size (w.heap.size + 1) (0 + 1) _ R2.out (by omega)).mono ?_
    rintro e w3 ⟨k1, q1, qs1, m1, p1, s3, rfl, o3, l3, hm3, hs3, r3, g3⟩
    obtain ⟨A1, c1, rfl, _, _, _⟩ := o3.form
    obtain ⟨V3, hV3⟩ : ∃ V3, w3.alloc (.cells #[.int .i64 k1, .slice A1 qs1.length c1, .string m1, .int .i64 p1] 25) = V3 := ⟨_, rfl⟩
    have z3 : w2.heap.size ≤ w3.heap.size := g3.size
    have R3 : Hid (Rd6 V3 w.heap.size (w.heap.size + 1) s3) := Lib.hid (by rw [← hV3]; exact r3.alloc _)
    have O3 : Hid (Own V3 (w.heap.size + 1) (.slice A1 qs1.length c1) qs1) := Lib.hid (by rw [← hV3]; exact (o3.more (by omega)).alloc _)
    have K3 : Hid (Blk V3 w.heap.size 27 #[.int .i64 0, .slice none 0 0, .string .empty, .int .i64 0, .int .i64 0, .slice none 0 0, .string .empty, .int .i64 0]) := Lib.hid (by rw [← hV3]; exact (K2.out.grown g3 (by intro h; injection h with h; omega)).alloc _)
    have X3 : Hid (Blk V3 w3.heap.size 25 #[.int .i64 k1, .slice A1 qs1.length c1, .string m1, .int .i64 p1]) := Lib.hid (by rw [← hV3]; exact Blk.new _ _ _)
    have B3 : Hid (Below w.heap.size w V3) := Lib.hid (by
      rw [← hV3]
      have h := below_only B2.out g3 (by omega) (Nat.le_succ _)
      exact h.alloc h.size _)
    have z4 : w3.heap.size < V3.heap.size := X3.out.lt
    have y0 : V3.cell? ⟨w3.heap.size, 0, none⟩ = some (.int .i64 k1) := X3.out.cell 0
    have y1 : V3.cell? ⟨w3.heap.size, 1, none⟩ = some (.slice A1 qs1.length c1) := X3.out.cell 1
    have y2 : V3.cell? ⟨w3.heap.size, 2, none⟩ = some (.string m1) := X3.out.cell 2
    have y3 : V3.cell? ⟨w3.heap.size, 3, none⟩ = some (.int .i64 p1) := X3.out.cell 3
    clear r3 g3 o3 R2 K2 B2
    go_upto_region 4 with fail
    clear hV3
    go_cut [] from 12 to 15 (fun wx => ∃ k q qs nm pt, Blk wx w.heap.size 27 #[.int .i64 k1, .slice A1 qs1.length c1, .string m1, .int .i64 p1, .int .i64 k, q, .string nm, .int .i64 pt] ∧ Own wx (w.heap.size + 1) (.slice A1 qs1.length c1) qs1 ∧ Own wx (w.heap.size + 1) q qs ∧ nm.size ≤ 21 ∧ Below w.heap.size w wx)
    case first =>
      have S0 : Hid (V3.drew.cell? ⟨w3.heap.size, 0, none⟩ = some (.int .i64 k1) ∧ V3.drew.cell? ⟨w3.heap.size, 1, none⟩ = some (.slice A1 qs1.length c1) ∧ V3.drew.cell? ⟨w3.heap.size, 2, none⟩ = some (.string m1) ∧ V3.drew.cell? ⟨w3.heap.size, 3, none⟩ = some (.int .i64 p1)) := Lib.hid ⟨y0, y1, y2, y3⟩
      have n0 : w3.heap.size ≠ w.heap.size := by omega
      go_region_held3 (fun W => W.cell? ⟨w3.heap.size, 0, none⟩ = some (.int .i64 k1) ∧ W.cell? ⟨w3.heap.size, 1, none⟩ = some (.slice A1 qs1.length c1) ∧ W.cell? ⟨w3.heap.size, 2, none⟩ = some (.string m1) ∧ W.cell? ⟨w3.heap.size, 3, none⟩ = some (.int .i64 p1))
        (first | with_reducible exact S0.out | with_reducible exact S6.out | with_reducible exact four_set (four_set (four_set (four_set (four_set (four_set (four_set (four_set S6.out n0) n0) n0) n0) n0) n0) n0) n0)
        (first
          | (go_at_call 50; go_loud (refine (l91Address_any w.heap.size (w.heap.size + 1) s3 _ (R3.out.drewN 1) (by omega)).mono ?_); go_loud (rintro e w6 ⟨k, q, qs, nm, pt, s6, rfl, o6, l6, hm6, hs6, hr6, hg6⟩); go_loud (obtain ⟨A6, c6, rfl, _, _, _⟩ := o6.form); go_loud (have X6 := Lib.hid ((X3.out.drewN 1).grown hg6 (by intro h; injection h with h; omega))); go_loud (have K6 := Lib.hid ((K3.out.drewN 1).grown hg6 (by intro h; injection h with h; omega))); go_loud (have O26 := Lib.hid ((R3.out.drewN 1).own (O3.out.drewN 1) hg6)); go_loud (have O6 := Lib.hid o6); go_loud (have B6 := Lib.hid (below_only (below_drewN B3.out 1) hg6 (show w.heap.size ≤ V3.heap.size by omega) (Nat.le_succ _))); go_loud (have z6 : V3.heap.size ≤ w6.heap.size := hg6.size); go_loud (have S6 : Hid (w6.cell? ⟨w3.heap.size, 0, none⟩ = some (.int .i64 k1) ∧ w6.cell? ⟨w3.heap.size, 1, none⟩ = some (.slice A1 qs1.length c1) ∧ w6.cell? ⟨w3.heap.size, 2, none⟩ = some (.string m1) ∧ w6.cell? ⟨w3.heap.size, 3, none⟩ = some (.int .i64 p1)) := Lib.hid ⟨X6.out.cell 0, X6.out.cell 1, X6.out.cell 2, X6.out.cell 3⟩);
             go_loud (have r0 : w6.cell? ⟨w.heap.size, 0, none⟩ = some (.int .i64 0) := K6.out.cell 0); go_loud (have r1 : w6.cell? ⟨w.heap.size, 1, none⟩ = some (.slice none 0 0) := K6.out.cell 1); go_loud (have r2 : w6.cell? ⟨w.heap.size, 2, none⟩ = some (.string .empty) := K6.out.cell 2); go_loud (have r3 : w6.cell? ⟨w.heap.size, 3, none⟩ = some (.int .i64 0) := K6.out.cell 3); go_loud (have r4 : w6.cell? ⟨w.heap.size, 4, none⟩ = some (.int .i64 0) := K6.out.cell 4); go_loud (have r5 : w6.cell? ⟨w.heap.size, 5, none⟩ = some (.slice none 0 0) := K6.out.cell 5); go_loud (have r6 : w6.cell? ⟨w.heap.size, 6, none⟩ = some (.string .empty) := K6.out.cell 6); go_loud (have r7 : w6.cell? ⟨w.heap.size, 7, none⟩ = some (.int .i64 0) := K6.out.cell 7);
             go_loud (have f0 := K6.out.free 0); go_loud (have f1 := K6.out.free 1); go_loud (have f2 := K6.out.free 2); go_loud (have f3 := K6.out.free 3); go_loud (have f4 := K6.out.free 4); go_loud (have f5 := K6.out.free 5); go_loud (have f6 := K6.out.free 6); go_loud (have f7 := K6.out.free 7))
          | fail)
      all_goals
        go_wp2_with fail
        go_meet
        exact ⟨k, _, qs, nm, pt, K6.out.set8_ _ _ _ _ _ _ _ _, (O26.out.set8 (Nat.lt_succ_self _)), (O6.out.set8 (show w.heap.size < V3.heap.size by omega)).more (show w.heap.size + 1 ≤ V3.heap.size by omega), hm6, below_set8 B6.out (Nat.le_refl _) _ _ _ _ _ _ _ _⟩
    case rest =>
      obtain ⟨k, q, qs, nm, pt, kx, oa, ob, hm, bx⟩ := hcut
      obtain ⟨A6, c6, rfl, _, _, _⟩ := ob.form
      have OA := Lib.hid oa
      have OB := Lib.hid ob
      have BX := Lib.hid bx
      have r0 : wc.cell? ⟨w.heap.size, 0, none⟩ = some (.int .i64 k1) := kx.cell 0
      have r1 : wc.cell? ⟨w.heap.size, 1, none⟩ = some (.slice A1 qs1.length c1) := kx.cell 1
      have r2 : wc.cell? ⟨w.heap.size, 2, none⟩ = some (.string m1) := kx.cell 2
      have r3 : wc.cell? ⟨w.heap.size, 3, none⟩ = some (.int .i64 p1) := kx.cell 3
      have r4 : wc.cell? ⟨w.heap.size, 4, none⟩ = some (.int .i64 k) := kx.cell 4
      have r5 : wc.cell? ⟨w.heap.size, 5, none⟩ = some (.slice A6 qs.length c6) := kx.cell 5
      have r6 : wc.cell? ⟨w.heap.size, 6, none⟩ = some (.string nm) := kx.cell 6
      have r7 : wc.cell? ⟨w.heap.size, 7, none⟩ = some (.int .i64 pt) := kx.cell 7
      clear kx oa ob bx
      go_wp2_with fail
      refine bodyPost_ret (v := .agg #[.int .i64 k1, .slice A1 qs1.length c1, .string m1, .int .i64 p1, .int .i64 k, .slice A6 qs.length c6, .string nm, .int .i64 pt]) (by simp [results, Tryd.results15, go_sem, r0, r1, r2, r3, r4, r5, r6, r7]) rfl ?_
      exact ⟨k1, _, qs1, m1, p1, k, _, qs, nm, pt, rfl, OA.out.more (Nat.le_succ _), hm3, OB.out.more (Nat.le_succ _), hm, BX.out⟩
  · have hx' : (x == 0) = false := by simpa using hx
    clear hx
    go_wp2_with fail
    refine (l92Pair_any w.heap.size (w.heap.size + 1) (0 + 1) _ R2.out (by omega)).mono ?_
    rintro e w3 ⟨k1, q1, qs1, m1, p1, k2, q2, qs2, m2, p2, s3, rfl, o1, h1, o2, h2, _, r3, g3⟩
    obtain ⟨A1, c1, rfl, _, _, _⟩ := o1.form
    obtain ⟨A2, c2, rfl, _, _, _⟩ := o2.form
    have K3 := K2.out.grown g3 (by intro h; injection h with h; omega)
    have B3 := Lib.hid (below_only B2.out g3 (by omega) (Nat.le_succ _))
    have O1 := Lib.hid o1
    have O2 := Lib.hid o2
    have r0 : w3.cell? ⟨w.heap.size, 0, none⟩ = some (.int .i64 0) := K3.cell 0
    have r1 : w3.cell? ⟨w.heap.size, 1, none⟩ = some (.slice none 0 0) := K3.cell 1
    have r2 : w3.cell? ⟨w.heap.size, 2, none⟩ = some (.string .empty) := K3.cell 2
    have r3' : w3.cell? ⟨w.heap.size, 3, none⟩ = some (.int .i64 0) := K3.cell 3
    have r4 : w3.cell? ⟨w.heap.size, 4, none⟩ = some (.int .i64 0) := K3.cell 4
    have r5 : w3.cell? ⟨w.heap.size, 5, none⟩ = some (.slice none 0 0) := K3.cell 5
    have r6 : w3.cell? ⟨w.heap.size, 6, none⟩ = some (.string .empty) := K3.cell 6
    have r7 : w3.cell? ⟨w.heap.size, 7, none⟩ = some (.int .i64 0) := K3.cell 7
    have f0 := K3.free 0
    have f1 := K3.free 1
    have f2 := K3.free 2
    have f3 := K3.free 3
    have f4 := K3.free 4
    have f5 := K3.free 5
    have f6 := K3.free 6
    have f7 := K3.free 7
    clear K3 o1 o2 r3 g3
    go_wp2_with fail
    refine bodyPost_ret (v := .agg #[.int .i64 k1, .slice A1 qs1.length c1, .string m1, .int .i64 p1, .int .i64 k2, .slice A2 qs2.length c2, .string m2, .int .i64 p2]) (by simp [results, Tryd.results15, go_sem, r0, r1, r2, r3', r4, r5, r6, r7]) rfl ?_
    exact ⟨k1, _, qs1, m1, p1, k2, _, qs2, m2, p2, rfl, (O1.out.set8 (by omega)).more (by omega), h1, (O2.out.set8 (by omega)).more (by omega), h2, below_set8 B3.out (Nat.le_refl _) _ _ _ _ _ _ _ _⟩
end Go.Proofs.YtahlgdehfjjoeaaDoor

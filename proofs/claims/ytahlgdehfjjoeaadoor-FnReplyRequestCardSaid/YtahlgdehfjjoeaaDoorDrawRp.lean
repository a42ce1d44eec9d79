/-
  The drawn reply: its address in memory of the call's own. Conditions: none.
-/
import Derived.Test.YtahlgdehfjjoeaaDoorDrawAd2
namespace Go.Proofs.YtahlgdehfjjoeaaDoor
open Go.RowKit

theorem below_set4 {w W : World} {g : Nat} (h : Below w.heap.size w W) (hg : w.heap.size ≤ g) (x y z u : Value) : Below w.heap.size w (Go.Proofs.YtahlgdehfjjoeaaDoor.set4 W g x y z u) :=
  (((h.setCell (p := ⟨g, 0, none⟩) hg x).setCell (p := ⟨g, 1, none⟩) hg y).setCell (p := ⟨g, 2, none⟩) hg z).setCell (p := ⟨g, 3, none⟩) hg u
/-- Behind a reply drawn from a code. -/
def DrewRp1 (w : World) (e : Ending) (w' : World) : Prop :=
  ∃ c k q qs nm pt, e = .returned (.tuple #[.int .i64 c, .agg #[.int .i64 k, q, .string nm, .int .i64 pt]]) ∧ Own w' w.heap.size q qs ∧ qs.length ≤ 4 ∧ nm.size ≤ 21 ∧ Below w.heap.size w w'

set_option maxRecDepth 100000 in
set_option maxHeartbeats 4000000 in
theorem DrawReplyBytes_any (v : Value) (bs : List Int) (w : World) (hv : Came .u8 w w.heap.size v bs) : Calls Tryd.prog 42 #[v] w fun e w' => DrewRp1 w e w' := by
  go_enter Tryd.func42, Tryd.ntmps42
  go_wp2_with fail
  refine (l6Open_any _ bs w.heap.size _ (hv.keep fun b hb => Below.heap_alloc w _ b hb) (by simp)).mono ?_
  rintro e w1 ⟨rfl, r1, b1⟩
  simp only [World.size_alloc] at r1 b1 ⊢
  have K1 := Lib.hid ((Blk.new w 25 #[.int .i64 0, .slice none 0 0, .string .empty, .int .i64 0]).below b1 (Nat.lt_succ_self _))
  have R1 := Lib.hid r1
  have B1 : Hid (Below w.heap.size w w1) := Lib.hid (((Below.refl _ _).alloc (Nat.le_refl _) _).trans (b1.mono (Nat.le_succ _)))
  have z1 := b1.size
  simp at z1
  clear r1 b1
  go_wp2_with fail
  refine (pick_any w.heap.size (w.heap.size + 1) 0 10 _ R1.out (by omega) (by omega)).mono ?_
  rintro e w2 ⟨x, rfl, hx, r2, g2⟩
  obtain ⟨i, rfl, hi⟩ := pick_lit 10 rfl (by omega) hx
  have hii : (i : Int) < 10 := by omega
  have R2 := Lib.hid r2
  have K2 := Lib.hid (K1.out.grown g2 (by intro h; injection h with h; omega))
  have B2 := Lib.hid (below_only B1.out g2 (by omega) (Nat.le_succ _))
  have z2 := g2.size
  clear r2 g2 hx
  go_wp2_with fail
  refine (pick_any w.heap.size (w.heap.size + 1) (0 + 1) 20 _ R2.out (by omega) (by omega)).mono ?_
  rintro e w3 ⟨y, rfl, hy, r3, g3⟩
  obtain ⟨j, rfl, hj⟩ := pick_lit 20 rfl (by omega) hy
  have R3 := Lib.hid r3
  have K3 := Lib.hid (K2.out.grown g3 (by intro h; injection h with h; omega))
  have B3 := Lib.hid (below_only B2.out g3 (by omega) (Nat.le_succ _))
  have z3 := g3.size
  clear r3 g3 hy
  go_wp2_with fail
  refine (l91Address_any w.heap.size (w.heap.size + 1) (0 + 1 + 1) _ R3.out (by omega)).mono ?_
  rintro e w4 ⟨k, q, qs, nm, pt, p4, rfl, o4, l4, hs, _, _, g4⟩
  obtain ⟨A, cq, rfl, hcq, hlq, _⟩ := o4.form
  have O4 := Lib.hid o4
  have K4 := K3.out.grown g4 (by intro h; injection h with h; omega)
  have B4 := Lib.hid (below_only B3.out g4 (by omega) (Nat.le_succ _))
  have f0 := K4.free 0
  have f1 := K4.free 1
  have f2 := K4.free 2
  have f3 := K4.free 3
  have c0 : w4.cell? ⟨w.heap.size, 0, none⟩ = some (.int .i64 0) := K4.cell 0
  have c1 : w4.cell? ⟨w.heap.size, 1, none⟩ = some (.slice none 0 0) := K4.cell 1
  have c2 : w4.cell? ⟨w.heap.size, 2, none⟩ = some (.string .empty) := K4.cell 2
  have c3 : w4.cell? ⟨w.heap.size, 3, none⟩ = some (.int .i64 0) := K4.cell 3
  clear g4 K4 o4
  go_wp2_with fail
  refine bodyPost_ret (v := .tuple #[.int .i64 _, .agg #[.int .i64 k, .slice A qs.length cq, .string nm, .int .i64 pt]]) (by simp [results, Tryd.results42, go_sem, c0, c1, c2, c3]; rfl) rfl ?_
  exact ⟨_, k, _, qs, nm, pt, rfl, (O4.out.set4 (by omega)).more (by omega), l4, hs, below_set4 B4.out (Nat.le_refl _) _ _ _ _⟩
end Go.Proofs.YtahlgdehfjjoeaaDoor

/-
  The drawn quad: a list of at most four integers in memory of the call's own. Conditions: the reader's counter is small.
-/
import Derived.Test.YtpcflkdeoafpeaaDoorDrawAd
import Derived.Deep.AppendLies
import Derived.BigRegion
import Derived.RegionTactic
import Derived.Deep.RegionWith
namespace Go.Proofs.YtpcflkdeoafpeaaDoor
open Go.RowKit

/-- Old cells behind a draw. -/
theorem far_cells {W w' : World} {g : Nat} (h : W.grownBy w' (some g)) : ∀ b o, b ≠ g → b < W.heap.size → w'.cell? ⟨b, o, none⟩ = W.cell? ⟨b, o, none⟩ := by
  intro b o hb hl
  exact World.grownBy.cell_far h ⟨b, o, none⟩ hl (by intro e; injection e with e; exact hb e)
theorem Own.part {w : World} {base b n c k : Nat} {zs : List Int} (h : Own w base (.slice (some ⟨b, 0, none⟩) n c) zs) (hk : k ≤ zs.length) : Own w base (.slice (some ⟨b, 0, none⟩) k c) (zs.take k) := by
  have hl : (zs.take k).length = k := by simp; omega
  have hz := h.1
  rcases h.2 with ⟨h0, _⟩ | ⟨g, cap, cur, he, hb, hh, hnc, hcm, hsz, ht⟩
  · cases h0
  · injection he with e1 e2 e3
    injection e1 with e1
    injection e1 with e1
    subst e1 e2 e3
    refine ⟨by rw [iv_length, hl]; omega, .inr ⟨b, c, cur, by rw [hl], hb, hh, by rw [hl]; omega, hcm, hsz, ?_⟩⟩
    rw [hl, Nat.mul_one]
    have e : iv (zs.take k) = (iv zs).take k := by simp [iv, List.map_take]
    rw [e, ← ht, List.take_take, Nat.min_eq_left (by omega)]
theorem lit5_get {x y : Int} {j : Nat} (hj : j < 5) (hy : ([0, 1, 10, 255, x] : List Int).getD j 0 = y) (h : j < ([Value.int .i64 0, .int .i64 1, .int .i64 10, .int .i64 255, .int .i64 x] : List Value).length) : ([Value.int .i64 0, .int .i64 1, .int .i64 10, .int .i64 255, .int .i64 x] : List Value)[j]'h = .int .i64 y := by
  subst hy
  match j, hj with
  | 0, _ => rfl
  | 1, _ => rfl
  | 2, _ => rfl
  | 3, _ => rfl
  | 4, _ => rfl

set_option maxRecDepth 100000 in
set_option maxHeartbeats 8000000 in
theorem l91Quad_any (hi g p : Nat) (w : World) (hr : Rd6 w hi g p) (hp : p ≤ 900000) :
    Calls Tryd.prog 29 #[.pointer (some ⟨g, 0, none⟩)] w fun e w' => DrewInts w hi g p 4 7 e w' := by
  have hgw := hr.lt
  have hhi := hr.1
  have HR := Lib.hid hr
  clear hr
  go_enter Tryd.func29, Tryd.ntmps29
  go_wp2_with fail
  go_region_with (first
    | (go_at_call_of 20 (Value.int .i64 256); go_loud (refine (pick_any hi g (p + 1 + 1 + 1 + 1) 256 _ ?_ (by omega) (by omega)).mono ?_); go_loud ((first | exact R4.out | exact R4.out.alloc _)); go_loud (rintro e w5 ⟨x5, rfl, hx5, hr5, hg5⟩); go_loud (have R5 := Lib.hid hr5); go_loud ((first | have G5 := Lib.hid (only_trans G4.out hg5) | have G5 := Lib.hid (only_trans (only_alloc G4.out _) hg5))); go_loud (have hf5 := far_cells hg5); go_loud (have hz5 := hg5.size); go_loud ((try simp at hz5)); go_loud (have hn5 : w5.heap.size ≠ g := by omega); go_loud ((try have hlt15 : w1.heap.size < w5.heap.size := by omega)); go_loud ((try have hlt25 : w2.heap.size < w5.heap.size := by omega)); go_loud ((try have hlt35 : w3.heap.size < w5.heap.size := by omega)); go_loud ((try have hlt45 : w4.heap.size < w5.heap.size := by omega)); go_loud (clear hr5 hg5 hx5))
    | (go_at_call_of 20 (Value.int .i64 256); go_loud (refine (pick_any hi g (p) 256 _ ?_ (by omega) (by omega)).mono ?_); go_loud ((exact HR.out.drewN 1)); go_loud (rintro e w1 ⟨x1, rfl, hx1, hr1, hg1⟩); go_loud (have R1 := Lib.hid hr1); go_loud (have G1 := Lib.hid (only_trans (only_drew (World.grownBy.refl w (some g))) hg1)); go_loud (have hz1 : w.heap.size ≤ w1.heap.size := hg1.size); go_loud (have hn1 : w1.heap.size ≠ g := by omega); go_loud (clear hr1 hg1 hx1))
    | (go_at_call_of 20 (Value.int .i64 5); go_loud (refine (pick_any hi g (p + 1) 5 _ ?_ (by omega) (by omega)).mono ?_); go_loud ((first | exact R1.out | exact R1.out.alloc _)); go_loud (rintro e w2 ⟨x2, rfl, hx2, hr2, hg2⟩); go_loud (obtain ⟨j, rfl, hj⟩ := pick_lit 5 rfl (by omega) hx2); go_loud (obtain ⟨y, hy⟩ : ∃ y, ([0, 1, 10, 255, x1] : List Int).getD j 0 = y := ⟨_, rfl⟩); go_loud (have hlit := lit5_get hj hy); go_loud (have hji : (j : Int) < 5 := by omega); go_loud (clear hy); go_loud (have hx2 := hj); go_loud (have R2 := Lib.hid hr2); go_loud ((first | have G2 := Lib.hid (only_trans G1.out hg2) | have G2 := Lib.hid (only_trans (only_alloc G1.out _) hg2))); go_loud (have hf2 := far_cells hg2); go_loud (have hz2 := hg2.size); go_loud ((try simp at hz2)); go_loud (have hn2 : w2.heap.size ≠ g := by omega); go_loud ((try have hlt12 : w1.heap.size < w2.heap.size := by omega)); go_loud (clear hr2 hg2 hx2))
    | (go_at_call_of 20 (Value.int .i64 2); go_loud (refine (pick_any hi g (p + 1 + 1 + 1) 2 _ ?_ (by omega) (by omega)).mono ?_); go_loud ((first | exact R3.out | exact R3.out.alloc _)); go_loud (rintro e w4 ⟨x4, rfl, hx4, hr4, hg4⟩); go_loud (have R4 := Lib.hid hr4); go_loud ((first | have G4 := Lib.hid (only_trans G3.out hg4) | have G4 := Lib.hid (only_trans (only_alloc G3.out _) hg4))); go_loud (have hf4 := far_cells hg4); go_loud (have hz4 := hg4.size); go_loud ((try simp at hz4)); go_loud (have hn4 : w4.heap.size ≠ g := by omega); go_loud ((try have hlt14 : w1.heap.size < w4.heap.size := by omega)); go_loud ((try have hlt24 : w2.heap.size < w4.heap.size := by omega)); go_loud ((try have hlt34 : w3.heap.size < w4.heap.size := by omega)); go_loud (clear hr4 hg4 hx4))
    | (go_at_call_of 20 (Value.int .i64 2); go_loud (refine (pick_any hi g (p + 1 + 1) 2 _ ?_ (by omega) (by omega)).mono ?_); go_loud ((first | exact R2.out | exact R2.out.alloc _)); go_loud (rintro e w3 ⟨x3, rfl, hx3, hr3, hg3⟩); go_loud (have R3 := Lib.hid hr3); go_loud ((first | have G3 := Lib.hid (only_trans G2.out hg3) | have G3 := Lib.hid (only_trans (only_alloc G2.out _) hg3))); go_loud (have hf3 := far_cells hg3); go_loud (have hz3 := hg3.size); go_loud ((try simp at hz3)); go_loud (have hn3 : w3.heap.size ≠ g := by omega); go_loud ((try have hlt13 : w1.heap.size < w3.heap.size := by omega)); go_loud ((try have hlt23 : w2.heap.size < w3.heap.size := by omega)); go_loud (clear hr3 hg3 hx3)))
  all_goals
    have hz6 := G5.out.size
    clear hf2 hf3 hf4 hf5 hlit
    go_wp2_with fail
    refine (pick_any hi g (p + 1 + 1 + 1 + 1 + 1) 40 _ (by first | exact R5.out.alloc _ | exact (R5.out.alloc _).alloc _) (by omega) (by omega)).mono ?_
    rintro e w6 ⟨x6, rfl, _, hr6, hg6⟩
    have R6 := Lib.hid hr6
    have e6 : ∀ o, (w5.alloc o).heap.size = w5.heap.size + 1 := fun o => by simp
    first
      | (have o6 := Rd6.own ((R5.out.alloc _).alloc _) (Own.lit _ [y, x3, x4, x5] w.heap.size (by rw [e6]; omega) (by simp)) hg6
         rw [e6] at o6
         have O6 := Lib.hid o6
         clear o6 e6)
      | (have O6 := Lib.hid (Rd6.own (R5.out.alloc _) (Own.lit _ [y, x3, x4, x5] w.heap.size (by omega) (by simp)) hg6)
         clear e6)
    have G6 : Hid (w.grownBy w6 (some g)) := Lib.hid (by first | exact only_trans (only_alloc G5.out _) hg6 | exact only_trans (only_alloc (only_alloc G5.out _) _) hg6)
    clear hr6 hg6
    by_cases h0 : x6 = 0
    · subst h0
      go_wp2_with fail
      refine (pick_any hi g (p + 1 + 1 + 1 + 1 + 1 + 1) 4 _ R6.out (by omega) (by omega)).mono ?_
      rintro e w7 ⟨x7, rfl, hx7, hr7, hg7⟩
      obtain ⟨i, rfl, hi7⟩ := pick_lit 4 rfl (by omega) hx7
      have O7 := Lib.hid (R6.out.own O6.out hg7)
      have R7 := Lib.hid hr7
      have G7 := Lib.hid (only_trans G6.out hg7)
      have c7 := O7.out.cell (j := i) hi7
      have f7 := O7.out.frozen i
      have hii : (i : Int) < 4 := by omega
      clear hr7 hg7 hx7
      go_wp2_with fail
      go_ret
      exact ⟨_, _, _, rfl, O7.out.store_ (by simp) 256, by simp, by omega, R7.out.far (a := ⟨_, i, none⟩) (by dsimp only; omega) (by dsimp only; omega) _, only_setCell (p := ⟨_, i, none⟩) G7.out (.inr (by dsimp only; omega)) _⟩
    · have h0' : (x6 == 0) = false := by simpa using h0
      clear h0
      by_cases h1 : x6 = 1
      · subst h1
        go_wp2_with fail
        go_ret
        exact ⟨_, _, _, rfl, O6.out.part (k := 3) (by simp), by simp, by omega, R6.out, G6.out⟩
      · have h1' : (x6 == 1) = false := by simpa using h1
        clear h1
        go_wp2_with fail
        go_ret
        exact ⟨_, _, _, rfl, O6.out, by simp, by omega, R6.out, G6.out⟩
end Go.Proofs.YtpcflkdeoafpeaaDoor

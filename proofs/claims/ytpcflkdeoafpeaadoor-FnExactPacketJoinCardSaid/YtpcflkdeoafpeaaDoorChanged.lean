/-
  The drawn lists of bytes, and the changes drawn on a list: lists of integers in memory of the call's own. Conditions: the reader's counter is small.
  The changes drawn on a list of bytes: a list of integers in memory of the call's own. Conditions: the reader's counter is small.
-/
import Derived.Test.YtpcflkdeoafpeaaDoorPick
namespace Go.Proofs.YtpcflkdeoafpeaaDoor
open Go.RowKit

set_option maxRecDepth 100000 in
set_option maxHeartbeats 2000000 in
theorem l91Bytes_any (hi g p m : Nat) (w : World) (hr : Rd6 w hi g p) (hp : p ≤ 1000000) (hm : m ≤ 100) :
    Calls Tryd.prog 18 #[.pointer (some ⟨g, 0, none⟩), .int .i64 (m : Int)] w fun e w' => DrewInts w hi g p m 400 e w' := by
  have hgw := hr.lt
  have hhi := hr.1
  have HR := Lib.hid hr
  clear hr
  go_enter Tryd.func18, Tryd.ntmps18
  go_wp2_with fail
  refine (pick_any hi g p ((m : Int) + 1) _ (HR.out.alloc _) (by omega) (by omega)).mono ?_
  rintro e w1 ⟨x, rfl, hx, hr1, hg1⟩
  obtain ⟨n, rfl, hnm⟩ : ∃ n : Nat, x = n ∧ n < m + 1 := pick_lit (m + 1) (by omega) (by omega) hx
  have O1 : Hid (Own w1 w.heap.size (.slice (some ⟨w.heap.size, 0, none⟩) 0 0) []) := Lib.hid ((HR.out.alloc (.cells #[] 3)).own (Own.lit w [] w.heap.size (Nat.le_refl _) (by simp)) hg1)
  have R1 := Lib.hid hr1
  have G1 : Hid (w.grownBy w1 (some g)) := Lib.hid (only_trans (only_alloc (World.grownBy.refl w _) _) hg1)
  clear hx hr1 hg1
  go_wp2_with fail
  go_loopw [5, 7] (fun o i wr => ∃ (k : Nat) (zs : List Int) (p' : Nat), k ≤ n ∧ i = .int .i64 k ∧ Hid (Own wr w.heap.size o zs) ∧ Hid (zs.length = k) ∧ p' ≤ p + 1 + 3 * k ∧ Hid (Rd6 wr hi g p') ∧ Hid (w.grownBy wr (some g))) (fun _ i _ => n - (intOf i).toNat)
  case atStart => exact ⟨0, [], p + 1, Nat.zero_le _, rfl, O1, Lib.hid rfl, by omega, R1, G1⟩
  case round =>
    obtain ⟨k, zs, p', hk, rfl, HO, HZ, hp', HRr, HG⟩ := hrel
    by_cases hlt : k < n
    · have hki : (k : Int) < (n : Int) := by omega
      go_wp2_with fail
      refine (pick_any hi g p' 6 _ HRr.out (by omega) (by omega)).mono ?_
      rintro e w2 ⟨x1, rfl, _, hr2, hg2⟩
      have O2 := Lib.hid (HRr.out.own HO.out hg2)
      have G2 := Lib.hid (only_trans HG.out hg2)
      have R2 := Lib.hid hr2
      clear HO HG HRr hr2 hg2
      go_wp2_with fail
      refine (pick_any hi g (p' + 1) 256 _ R2.out (by omega) (by omega)).mono ?_
      rintro e w3 ⟨x2, rfl, _, hr3, hg3⟩
      have O3 := Lib.hid (R2.out.own O2.out hg3)
      have G3 := Lib.hid (only_trans G2.out hg3)
      have R3 := Lib.hid hr3
      clear O2 G2 R2 hr3 hg3
      go_wp2_with fail
      refine (pick_any hi g (p' + 1 + 1) 2 _ (R3.out.alloc _) (by omega) (by omega)).mono ?_
      rintro e w4 ⟨x3, rfl, hx3, hr4, hg4⟩
      obtain ⟨j, rfl, hj⟩ := pick_lit 2 rfl (by omega) hx3
      have cj := own_lit_cell (L := [x1, x2]) (R3.out.alloc _) hg4 (by simp) (j := j) (by simpa using hj)
      obtain ⟨y, hy⟩ : ∃ y, [x1, x2].getD j 0 = y := ⟨_, rfl⟩
      rw [hy] at cj
      have O4 := Lib.hid ((R3.out.alloc (.cells #[.int .i64 x1, .int .i64 x2] 3)).own (O3.out.alloc _) hg4)
      have G4 := Lib.hid (only_trans (only_alloc G3.out _) hg4)
      have R4 := Lib.hid hr4
      have hs4 := G4.out.size
      have hji : (j : Int) < 2 := by omega
      have hzk := HZ.out
      clear O3 G3 R3 hr4 hg4 hx3 hy
      go_wp2_with (at_builtin; refine wp_ints rfl (.tmp 18) (.tmp 28) rfl rfl rfl (O4.out.alloc _) (lit1 _ _) (by simp; omega) (by simp; omega) ?_; intro v5 w5 o5 b5 g5 k5)
      go_roundw
      case rel => exact ⟨k + 1, zs ++ [y], p' + 1 + 1 + 1, by omega, by go_num, Lib.hid o5, Lib.hid (by rw [List.length_append, hzk]; rfl), by omega, Lib.hid ((R4.out.alloc _).append (O4.out.alloc _) g5 (by omega)), Lib.hid (only_below (only_alloc G4.out _) b5)⟩
      case measure => simp [intOf]; omega
    · have hkn : k = n := by omega
      subst hkn
      by_cases h0 : 0 < k
      case neg =>
        have hk0 : k = 0 := by omega
        subst hk0
        go_wp2_with fail
        go_ret
        exact ⟨_, zs, p', rfl, HO.out, by rw [HZ.out]; omega, by omega, HRr.out, HG.out⟩
      have h0i : (0 : Int) < (k : Int) := by omega
      have hl := HZ.out
      obtain ⟨A, c, rfl, hc1, hc2, hA⟩ := HO.out.form
      obtain ⟨b, rfl, hb1, hb2⟩ := hA.resolve_left (fun h => by rw [h] at hl; simp at hl; omega)
      rw [hl]
      clear hA hl
      go_wp2_with fail
      refine (pick_any hi g p' 50 _ HRr.out (by omega) (by omega)).mono ?_
      rintro e w2 ⟨x1, rfl, _, hr2, hg2⟩
      have O2 := HRr.out.own HO.out hg2
      rw [HZ.out] at O2
      have HO2 := Lib.hid O2
      have G2 := Lib.hid (only_trans HG.out hg2)
      have R2 := Lib.hid hr2
      clear HO HG HRr hr2 hg2 O2
      by_cases hx1 : x1 = 0
      case neg =>
        have hx1' : (x1 == 0) = false := by simpa using hx1
        clear hx1
        go_wp2_with fail
        go_ret
        exact ⟨_, zs, p' + 1, rfl, HO2.out, by rw [HZ.out]; omega, by omega, R2.out, G2.out⟩
      subst hx1
      go_wp2_with fail
      refine (pick_any hi g (p' + 1) (k : Int) _ R2.out (by omega) (by omega)).mono ?_
      rintro e w3 ⟨x2, rfl, hx2, hr3, hg3⟩
      obtain ⟨i2, rfl, hi2⟩ := pick_nat (by omega) hx2
      have HO3 := Lib.hid (R2.out.own HO2.out hg3)
      have G3 := Lib.hid (only_trans G2.out hg3)
      have R3 := Lib.hid hr3
      have hs3 := hg3.size
      clear HO2 G2 R2 hr3 hg3 hx2
      go_wp2_with fail
      refine (pick_any hi g (p' + 1 + 1) 2 _ (R3.out.alloc _) (by omega) (by omega)).mono ?_
      rintro e w4 ⟨x3, rfl, hx3, hr4, hg4⟩
      obtain ⟨j, rfl, hj⟩ := pick_lit 2 rfl (by omega) hx3
      have cj := own_lit_cell (L := [-1, 256]) (R3.out.alloc _) hg4 (by simp) (j := j) (by simpa using hj)
      obtain ⟨y, hy⟩ : ∃ y, ([-1, 256] : List Int).getD j 0 = y := ⟨_, rfl⟩
      rw [hy] at cj
      have HO4 := Lib.hid ((R3.out.alloc (.cells #[.int .i64 (-1), .int .i64 256] 3)).own (HO3.out.alloc _) hg4)
      have G4 := Lib.hid (only_trans (only_alloc G3.out _) hg4)
      have R4 := Lib.hid hr4
      have cc := HO4.out.cell (j := i2) (by rw [HZ.out]; exact hi2)
      have ff := HO4.out.frozen i2
      obtain ⟨z, hz⟩ : ∃ z, zs.getD i2 0 = z := ⟨_, rfl⟩
      rw [hz] at cc
      have hji : (j : Int) < 2 := by omega
      have hi2i : (i2 : Int) < (k : Int) := by omega
      clear HO3 G3 R3 hr4 hg4 hx3 hy hz
      go_wp2_with fail
      go_ret
      have h5 := HO4.out.store_ (j := i2) HZ.out y
      have e5 := HO4.out
      rw [← HZ.out] at e5
      exact ⟨_, zs.set i2 y, p' + 1 + 1 + 1, rfl, h5, by rw [List.length_set, HZ.out]; omega, by omega, R4.out.append e5 (e5.stored y) (by omega), only_setCell (p := ⟨b, i2, none⟩) G4.out (.inr hb1) _⟩
end Go.Proofs.YtpcflkdeoafpeaaDoor
namespace Go.Proofs.YtpcflkdeoafpeaaDoor
open Go.RowKit

theorem Own.front {w : World} {base b n c k : Nat} {zs : List Int} (h : Own w base (.slice (some ⟨b, 0, none⟩) n c) zs) (hk : k ≤ zs.length) : Own w base (.slice (some ⟨b, 0, none⟩) k c) (zs.take k) := by
  have hl : (zs.take k).length = k := by simp; omega
  have hz := h.1
  rcases h.2 with ⟨h0, _⟩ | ⟨g, cap, cur, he, hb, hh, hnc, hcm, hsz, ht⟩
  · cases h0
  · injection he with e1 e2 e3
    injection e1 with e1
    injection e1 with e1
    subst e1 e2 e3
    refine ⟨by rw [iv_length, hl]; omega, .inr ⟨b, c, cur, by rw [hl], hb, hh, by rw [hl]; omega, hcm, hsz, ?_⟩⟩
    rw [hl, Nat.mul_one]
    have e : iv (zs.take k) = (iv zs).take k := by simp [iv, List.map_take]
    rw [e, ← ht, List.take_take, Nat.min_eq_left (by omega)]

/-- Behind a change that was drawn: a list of integers, the reader's new place; below lo nothing has turned. -/
def Changed (w : World) (lo hi g p m : Nat) (e : Ending) (w' : World) : Prop :=
  ∃ v zs p', e = .returned v ∧ Own w' lo v zs ∧ zs.length ≤ m + 3 ∧ p' ≤ p + 500 ∧ Rd6 w' hi g p' ∧ Below lo w w'

end Go.Proofs.YtpcflkdeoafpeaaDoor

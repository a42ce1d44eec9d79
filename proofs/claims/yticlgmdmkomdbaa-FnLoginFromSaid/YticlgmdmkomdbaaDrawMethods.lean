/-
  The drawn lists of methods are lists of integers, in memory of their own. Conditions: the reader's counter is small.
-/
import Derived.Test.YticlgmdmkomdbaaPick
namespace Go.Proofs.Yticlgmdmkomdbaa
open Go.RowKit

/-- Behind a draw of a list of integers: the list, its length's bound, the reader's new place. -/
def DrewInts (w : World) (hi g p m q : Nat) (e : Ending) (w' : World) : Prop :=
  ∃ v zs p', e = .returned v ∧ Own w' w.heap.size v zs ∧ zs.length ≤ m ∧ p' ≤ p + q ∧ Rd6 w' hi g p' ∧ w.grownBy w' (some g)


def allL : List Int := [2, 0, 1, 3, 128]

set_option maxRecDepth 100000 in
set_option maxHeartbeats 1000000 in
theorem l91Methods_any (hi g p : Nat) (w : World) (hr : Rd6 w hi g p) (hp : p ≤ 1000000) :
    Calls Try.prog 69 #[.pointer (some ⟨g, 0, none⟩)] w fun e w' => DrewInts w hi g p 6 6 e w' := by
  have hgw := hr.lt
  have hhi := hr.1
  have HR := Lib.hid hr
  clear hr
  go_enter Try.func69, Try.ntmps69
  go_wp2
  go_loopw [3, 5] (fun o i wr => ∃ (k : Nat) (zs : List Int) (p' : Nat), k ≤ 5 ∧ i = .int .i64 k ∧ Hid (Own wr w.heap.size o zs) ∧ Hid (o.ownBlock ≠ some (w.heap.size + 1)) ∧ zs.length ≤ k ∧ p' ≤ p + k ∧ Hid (Rd6 wr hi g p') ∧ Hid (w.grownBy wr (some g)) ∧ Hid (Seg wr 3 (w.heap.size + 1) 0 (iv allL)) ∧ w.heap.size + 2 ≤ wr.heap.size) (fun _ i _ => 5 - (intOf i).toNat)
  case atStart =>
    refine ⟨0, [], p, Nat.zero_le _, rfl, Lib.hid ?_, Lib.hid ?_, Nat.zero_le _, by omega, Lib.hid ?_, Lib.hid ?_, Lib.hid ?_, by simp⟩
    · exact (Own.lit w [] _ (Nat.le_refl _) (by simp)).alloc _
    · simp [Value.ownBlock]
    · exact (HR.out.alloc _).alloc _
    · exact only_alloc (only_alloc (World.grownBy.refl w _) _) _
    · exact ⟨(iv allL).toArray, heap_alloc2_new w _ _, fun j u hu => by simpa using hu⟩
  case round =>
    obtain ⟨k, zs, p', hk, rfl, HO, HB, hz, hp', HRr, HG, HS, hsz⟩ := hrel
    by_cases hlt : k < 5
    · have hi5 : (k : Int) < 5 := by omega
      go_wp2_with fail
      refine (pick_any hi g p' 2 _ HRr.out (by omega) (by omega)).mono ?_
      rintro e w1 ⟨x, rfl, _, hr1, hg1⟩
      have O1 := Lib.hid (HRr.out.own HO.out hg1)
      have S1 := Lib.hid (HRr.out.seg HS.out hg1)
      have G1 := Lib.hid (only_trans HG.out hg1)
      have R1 := Lib.hid hr1
      have hs1 := hg1.size
      clear HO HS HG HRr hr1 hg1
      by_cases hx : x = 0
      · subst hx
        obtain ⟨y, hy⟩ : ∃ y, allL.getD k 0 = y := ⟨_, rfl⟩
        have c1 := S1.out.int_at (j := k) (by simp [allL]; omega)
        rw [hy, Nat.zero_add] at c1
        clear hy
        go_wp2_with (at_builtin; refine wp_ints rfl (.tmp 17) (.tmp 22) rfl rfl rfl (O1.out.alloc _) (lit1 _ _) (by simp; omega) (by simp; omega) ?_; intro v2 w2 o2 b2 g2 k2)
        go_roundw
        case rel =>
          refine ⟨k + 1, zs ++ [y], p' + 1, by omega, by go_num, Lib.hid o2, Lib.hid ?_, by simp; omega, by omega, Lib.hid ((R1.out.alloc _).append (O1.out.alloc _) g2 (by omega)), Lib.hid (only_below (only_alloc G1.out _) b2), Lib.hid ((S1.out.alloc _).grown g2 (fun h => HB.out h.symm)), ?_⟩
          · rcases k2 with h | h
            · rw [h]; exact HB.out
            · rw [h]; simp; omega
          · have := g2.size; simp at this; omega
        case measure => simp [intOf]; omega
      · have hx0 : (x == 0) = false := by simpa using hx
        clear hx
        go_wp2
        go_roundw
        case rel => exact ⟨k + 1, zs, p' + 1, by omega, by go_num, O1, HB, by omega, by omega, R1, G1, S1, by omega⟩
        case measure => simp [intOf]; omega
    · have hk5 : k = 5 := by omega
      subst hk5
      clear HS
      obtain ⟨A, c, rfl, hc, hlc, hA⟩ := HO.out.form
      by_cases hz0 : zs = []
      · subst hz0
        go_wp2_with (at_builtin; refine wp_ints rfl (.tmp 27) (.tmp 28) rfl rfl rfl (HO.out.alloc _) (lit1 _ _) (by simp) (by simp; omega) ?_; intro v2 w2 o2 b2 g2 k2)
        obtain ⟨Z, hZ0⟩ : ∃ Z, ([] : List Int) ++ [0] = Z := ⟨_, rfl⟩
        rw [hZ0] at o2
        have hZ : 0 < Z.length := by rw [← hZ0]; simp
        have hZ5 : Z.length ≤ 5 := by rw [← hZ0]; simp
        have R2 := Lib.hid ((HRr.out.alloc _).append (HO.out.alloc _) g2 (by omega))
        have G2 := Lib.hid (only_below (only_alloc HG.out _) b2)
        have hs2 := g2.size
        simp at hs2
        obtain ⟨A2, c2, rfl, hc2, hlc2, hA2⟩ := o2.form
        obtain ⟨b, rfl, hb1, hb2⟩ := hA2.resolve_left (fun h => by rw [h] at hZ; simp at hZ)
        have O2 := Lib.hid o2
        clear o2 g2 k2 hZ0 hA2
        refine (pick_any hi g (p') 30 _ R2.out (by omega) (by omega)).mono ?_
        rintro e w3 ⟨x, rfl, _, hr3, hg3⟩
        have O3 := Lib.hid (R2.out.own O2.out hg3)
        have G3 := Lib.hid (only_trans G2.out hg3)
        have R3 := Lib.hid hr3
        have hs3 := hg3.size
        have cc := O3.out.cell (j := 0) hZ
        have ff := O3.out.frozen 0
        obtain ⟨y0, hy0⟩ : ∃ y0, Z.getD 0 0 = y0 := ⟨_, rfl⟩
        rw [hy0] at cc
        have hZi : (0 : Int) < (Z.length : Int) := by omega
        clear hr3 hg3 hy0
        by_cases hx0 : x = 0
        · subst hx0
          go_wp2
          go_ret
          exact ⟨_, Z.set 0 255, p' + 1, rfl, O3.out.store 255, by simp; omega, by omega, R3.out.append O3.out (O3.out.stored 255) (by omega), only_setCell (p := ⟨b, 0, none⟩) G3.out (.inr hb1) _⟩
        · by_cases hx1 : x = 1
          · subst hx1
            go_wp2_with (at_builtin; refine wp_ints rfl (.tmp 38) (.tmp 42) rfl rfl rfl (O3.out.alloc _) (lit1 _ _) (by simp; omega) (by simp; omega) ?_; intro v4 w4 o4 b4 g4 k4)
            go_ret
            exact ⟨_, Z ++ [y0], p' + 1, rfl, o4, by simp; omega, by omega, (R3.out.alloc _).append (O3.out.alloc _) g4 (by omega), only_below (only_alloc G3.out _) b4⟩
          · have n0 : (x == 0) = false := by simpa using hx0
            have n1 : (x == 1) = false := by simpa using hx1
            clear hx0 hx1
            by_cases hx2 : x = 2
            · subst hx2
              go_wp2
              go_ret
              exact ⟨_, [], p' + 1, rfl, Own.lit w3 [] _ (by omega) (by simp), by simp, by omega, R3.out.alloc _, only_alloc G3.out _⟩
            · have n2 : (x == 2) = false := by simpa using hx2
              clear hx2
              go_wp2
              go_ret
              exact ⟨_, Z, p' + 1, rfl, O3.out, by omega, by omega, R3.out, G3.out⟩
      · have hl0 : ((zs.length : Int) == 0) = false := by simp; exact hz0
        obtain ⟨b, rfl, hb1, hb2⟩ := hA.resolve_left hz0
        have hZ : 0 < zs.length := by cases zs with | nil => exact absurd rfl hz0 | cons x l => simp
        clear hA hz0
        go_wp2_with fail
        refine (pick_any hi g (p') 30 _ HRr.out (by omega) (by omega)).mono ?_
        rintro e w3 ⟨x, rfl, _, hr3, hg3⟩
        have O3 := Lib.hid (HRr.out.own HO.out hg3)
        have G3 := Lib.hid (only_trans HG.out hg3)
        have R3 := Lib.hid hr3
        have hs3 := hg3.size
        have cc := O3.out.cell (j := 0) hZ
        have ff := O3.out.frozen 0
        obtain ⟨y0, hy0⟩ : ∃ y0, zs.getD 0 0 = y0 := ⟨_, rfl⟩
        rw [hy0] at cc
        have hZi : (0 : Int) < (zs.length : Int) := by omega
        clear hr3 hg3 hy0
        by_cases hx0 : x = 0
        · subst hx0
          go_wp2
          go_ret
          exact ⟨_, zs.set 0 255, p' + 1, rfl, O3.out.store 255, by simp; omega, by omega, R3.out.append O3.out (O3.out.stored 255) (by omega), only_setCell (p := ⟨b, 0, none⟩) G3.out (.inr hb1) _⟩
        · by_cases hx1 : x = 1
          · subst hx1
            go_wp2_with (at_builtin; refine wp_ints rfl (.tmp 38) (.tmp 42) rfl rfl rfl (O3.out.alloc _) (lit1 _ _) (by simp; omega) (by simp; omega) ?_; intro v4 w4 o4 b4 g4 k4)
            go_ret
            exact ⟨_, zs ++ [y0], p' + 1, rfl, o4, by simp; omega, by omega, (R3.out.alloc _).append (O3.out.alloc _) g4 (by omega), only_below (only_alloc G3.out _) b4⟩
          · have n0 : (x == 0) = false := by simpa using hx0
            have n1 : (x == 1) = false := by simpa using hx1
            clear hx0 hx1
            by_cases hx2 : x = 2
            · subst hx2
              go_wp2
              go_ret
              exact ⟨_, [], p' + 1, rfl, Own.lit w3 [] _ (by omega) (by simp), by simp, by omega, R3.out.alloc _, only_alloc G3.out _⟩
            · have n2 : (x == 2) = false := by simpa using hx2
              clear hx2
              go_wp2
              go_ret
              exact ⟨_, zs, p' + 1, rfl, O3.out, by omega, by omega, R3.out, G3.out⟩

/-- Two drawn lists, behind a law's own start. -/
def DrewTwo (w : World) (e : Ending) (w' : World) : Prop :=
  ∃ v u a m, e = .returned (.tuple #[v, u]) ∧ Ints w' 0 v a ∧ Ints w' 0 u m ∧ a.length ≤ 6 ∧ m.length ≤ 6 ∧ Below w.heap.size w w'

theorem DrawHelloPick_any (v : Value) (bs : List Int) (w : World) (hv : Came .u8 w w.heap.size v bs) :
    Calls Try.prog 34 #[v] w fun e w' => DrewTwo w e w' := by
  go_enter Try.func34, Try.ntmps34
  go_wp2_with fail
  refine (l6Open_any _ bs w.heap.size _ hv (Nat.le_refl _)).mono ?_
  rintro e w1 ⟨rfl, hr, hb⟩
  go_wp2_with fail
  refine (l91Methods_any w.heap.size w.heap.size 0 _ hr (by omega)).mono ?_
  rintro e w2 ⟨v2, z2, p2, rfl, o2, l2, hp2, hr2, hg2⟩
  go_wp2_with fail
  refine (l91Methods_any w.heap.size w.heap.size p2 _ hr2 (by omega)).mono ?_
  rintro e w3 ⟨v3, z3, p3, rfl, o3, l3, hp3, hr3, hg3⟩
  have i2 := Lib.hid ((hr2.own o2 hg3).ints.zero)
  have hb2 := below_only hb hg2 hb.size (Nat.le_refl _)
  have hb3 := Lib.hid (below_only hb2 hg3 hb2.size (Nat.le_refl _))
  clear hg2 hg3 hb hb2
  go_wp2_with fail
  go_ret2
  exact ⟨_, _, z2, z3, rfl, i2.out, o3.ints.zero, l2, l3, hb3.out⟩
end Go.Proofs.Yticlgmdmkomdbaa

/-
  The reference's reader of a code of bytes (l6Open, pick): pick returns a number from 0 to n-1, or 0, and turns nothing but the reader's own counter. Conditions: the code is a slice that came in; the counter is at most 2^20.
-/
import Derived.Test.YtolbkdcnmkmncaaDoorAppend
import Derived.Test.YtolbkdcnmkmncaaDoorPickSum
import Derived.Deep.QuietTactic
import Derived.BigQuiet
import Derived.IntWalk
import Derived.OpenShut
namespace Go.Proofs.YtolbkdcnmkmncaaDoor
open Go.RowKit

/-- Block g is a reader over a code below block hi, at place p. -/
def Rd6 (w : World) (hi g p : Nat) : Prop :=
  hi ≤ g ∧ ∃ v bs, w.heap[g]? = some (.cells #[v, .int .i64 (p : Int)] 96 (0, 0)) ∧ Came .u8 w hi v bs

theorem Rd6.keep {w w' : World} {hi g p : Nat} (h : Rd6 w hi g p) (hg : w'.heap[g]? = w.heap[g]?) (hb : ∀ b, b < hi → w'.heap[b]? = w.heap[b]?) : Rd6 w' hi g p := by
  obtain ⟨h1, v, bs, h2, h3⟩ := h
  exact ⟨h1, v, bs, hg.trans h2, h3.keep hb⟩
theorem Rd6.lt {w : World} {hi g p : Nat} (h : Rd6 w hi g p) : g < w.heap.size := by
  obtain ⟨_, v, bs, h2, _⟩ := h
  exact (Array.getElem?_eq_some_iff.1 h2).1
theorem Rd6.below {w w' : World} {hi g p : Nat} (h : Rd6 w hi g p) (hb : Below w.heap.size w w') : Rd6 w' hi g p := by
  have := h.lt
  have h1 := h.1
  exact h.keep (hb.block g this) fun b hb' => hb.block b (by omega)
theorem Rd6.drewN {w : World} {hi g p : Nat} (h : Rd6 w hi g p) (n : Nat) : Rd6 (w.drewN n) hi g p := h
theorem Rd6.alloc {w : World} {hi g p : Nat} (h : Rd6 w hi g p) (o : Obj) : Rd6 (w.alloc o) hi g p := h.below ((Below.refl _ _).alloc (Nat.le_refl _) o)

theorem Rd6.own {w w' : World} {hi g p base : Nat} {v : Value} {zs : List Int} (hr : Rd6 w hi g p) (h : Own w base v zs) (hg : w.grownBy w' (some g)) : Own w' base v zs := by
  obtain ⟨_, v', bs, hh, _⟩ := hr
  exact h.grown hg hh (by decide)
theorem Rd6.ints {w w' : World} {hi g p lo : Nat} {v : Value} {zs : List Int} (hr : Rd6 w hi g p) (h : Ints w lo v zs) (hg : w.grownBy w' (some g)) : Ints w' lo v zs := by
  obtain ⟨_, v', bs, hh, _⟩ := hr
  exact h.grown hg hh (by decide)
theorem Rd6.seg {w w' : World} {hi g p b o : Nat} {xs : List Value} (hr : Rd6 w hi g p) (h : Seg w 3 b o xs) (hg : w.grownBy w' (some g)) : Seg w' 3 b o xs := by
  obtain ⟨_, v', bs, hh, _⟩ := hr
  refine h.grown hg fun he => ?_
  injection he with he
  exact Seg.ne_ h (b' := g) (o' := 0) (ys := []) ⟨_, hh, fun j u hu => by simp at hu⟩ (by decide) he
/-- The own row's append turns no reader. -/
theorem Rd6.append {w w' : World} {hi g p base : Nat} {v : Value} {zs : List Int} (hr : Rd6 w hi g p) (h : Own w base v zs) (hg : w.grownBy w' v.ownBlock) (hb : hi ≤ base) : Rd6 w' hi g p := by
  have hlt := hr.lt
  have h1 := hr.1
  refine hr.keep (hg.block g hlt ?_) fun b hb' => hg.block b (by omega) ?_
  · intro he
    obtain ⟨_, v', bs, hh, _⟩ := hr
    rcases h.2 with ⟨rfl, _⟩ | ⟨g', cap, cur, rfl, _, hh', _⟩
    · simp [Value.ownBlock] at he
    · have : g = g' := by simpa [Value.ownBlock] using he
      subst this
      rw [hh] at hh'
      injection hh' with hh'
      injection hh' with _ ht
      exact absurd ht (by decide)
  · intro he
    have := (World.ownsRow.lt h b he.symm).1
    omega

theorem l6Open_any (v : Value) (bs : List Int) (hi : Nat) (w : World) (hv : Came .u8 w hi v bs) (hh : hi ≤ w.heap.size) :
    Calls Tryd.prog 55 #[v] w fun e w' => e = .returned (.pointer (some ⟨w.heap.size, 0, none⟩)) ∧ Rd6 w' hi w.heap.size 0 ∧ Below w.heap.size w w' := by
  have hv0 := Lib.hid hv
  obtain ⟨A, c, rfl, hc, hm, hw, hA⟩ := hv
  by_cases hl : 2000 < bs.length
  · obtain ⟨b, o, rfl, hb, hcell⟩ := hA.resolve_left (fun h => by rw [h] at hl; simp at hl)
    have hi2 : (2000 : Int) < (bs.length : Int) := by omega
    have hi3 : (2000 : Int) ≤ (c : Int) := by omega
    have HC := Lib.hid hcell
    have HW := Lib.hid hw
    clear hcell hw
    go_enter Tryd.func55, Tryd.ntmps55
    go_wp2
    go_ret
    refine ⟨rfl, ⟨hh, _, bs.take 2000, heap_alloc_new w _, ?_⟩, (Below.refl _ _).alloc (Nat.le_refl _) _⟩
    exact (Came.front hb HW.out HC.out (m := 2000) (c := c) (by omega) (by omega) hm).keep fun b hb => Below.heap_alloc w _ b (by omega)
  · have hi2 : (bs.length : Int) ≤ 2000 := by omega
    clear hA hw
    go_enter Tryd.func55, Tryd.ntmps55
    go_wp2
    go_ret
    refine ⟨rfl, ⟨hh, _, bs, heap_alloc_new w _, ?_⟩, (Below.refl _ _).alloc (Nat.le_refl _) _⟩
    exact hv0.out.keep fun b hb => Below.heap_alloc w _ b (by omega)

set_option maxHeartbeats 1000000 in
theorem pick_any (hi g p : Nat) (n : Int) (w : World) (hr : Rd6 w hi g p) (hp : p ≤ 1048576) (hn : n ≤ 9223372036854775807) :
    Calls Tryd.prog 56 #[.pointer (some ⟨g, 0, none⟩), .int .i64 n] w fun e w' => ∃ x, e = .returned (.int .i64 x) ∧ PickOk n x ∧ Rd6 w' hi g (p + 1) ∧ w.grownBy w' (some g) := by
  obtain ⟨hg, v, bs, hh, hv⟩ := hr
  have hv0 := Lib.hid hv
  obtain ⟨A, c, rfl, hc, hm, hw, hA⟩ := hv
  have c0 : w.cell? ⟨g, 0, none⟩ = some (.slice A bs.length c) := by rw [cell_of_row w g 0 _ _ _ hh]; rfl
  have c1 : w.cell? ⟨g, 1, none⟩ = some (.int .i64 p) := by rw [cell_of_row w g 1 _ _ _ hh]; rfl
  have f1 := frozen_of_row w g 1 _ _ hh
  have HR : ∀ k : Nat, Rd6 ((w.setCell ⟨g, 1, none⟩ (.int .i64 ((p + 1 : Nat) : Int))).drewN k) hi g (p + 1) := fun k => by
    refine ⟨hg, _, bs, (heap_setCell_same w g 1 _ _ _ hh).trans rfl, hv0.out.keep fun b hb => ?_⟩
    exact Below.heap_setCell w _ _ b (by show b ≠ g; omega)
  have HG : ∀ k : Nat, w.grownBy ((w.setCell ⟨g, 1, none⟩ (.int .i64 ((p + 1 : Nat) : Int))).drewN k) (some g) := fun k =>
    only_drewN (only_setCell (p := ⟨g, 1, none⟩) (World.grownBy.refl w _) (.inl rfl) _) k
  have H1 := Lib.hid HR
  have H2 := Lib.hid HG
  clear HR HG
  have HH := Lib.hid hh
  clear hh
  by_cases h1 : n < 1
  · go_enter Tryd.func56, Tryd.ntmps56
    go_wp2
    go_ret
    refine ⟨0, rfl, ⟨Int.le_refl _, .inr rfl⟩, H1.out 0, H2.out 0⟩
  · have h1' : 1 ≤ n := by omega
    by_cases h2 : bs = []
    · subst h2
      go_enter Tryd.func56, Tryd.ntmps56
      go_wp2
      go_ret
      refine ⟨0, rfl, ⟨Int.le_refl _, .inr rfl⟩, H1.out 0, H2.out 0⟩
    · obtain ⟨b, o, rfl, hb, hcell⟩ := hA.resolve_left h2
      have hL : 1 ≤ bs.length := by cases bs with | nil => exact absurd rfl h2 | cons x l => simp
      have hL0 : ((bs.length : Int) == 0) = false := by simp; omega
      have hbd : ∀ j, 0 ≤ bs.getD j 0 ∧ bs.getD j 0 ≤ 255 := fun j => by simpa [List.getD] using range_u8 hw j
      clear hA h2
      obtain ⟨L, hLn⟩ : ∃ L, bs.length = L := ⟨_, rfl⟩
      rw [hLn] at hc hL hL0 c0 hcell
      have HN := Lib.hid hLn
      have HB := Lib.hid hbd
      clear hLn hbd hw
      by_cases h3 : p < L
      · have c2 : (w.setCell ⟨g, 1, none⟩ (.int .i64 ((p : Int) + 1))).cell? ⟨b, o + p, none⟩ = some (.int .u8 (bs.getD p 0)) := by
          rw [World.cell?_setCell_other w _ _ _ (fun e => by injection e; omega)]; exact hcell p h3
        obtain ⟨y, hy⟩ : ∃ y, bs.getD p 0 = y := ⟨_, rfl⟩
        have hyb := HB.out p
        rw [hy] at c2 hyb
        obtain ⟨hy0, hy1⟩ := hyb
        have h3' : (p : Int) < (L : Int) := by omega
        clear hcell hy
        go_enter Tryd.func56, Tryd.ntmps56
        go_wp2
        go_ret
        exact ⟨_, rfl, pickOk_mod n hy0 h1', H1.out 0, H2.out 0⟩
      · have h3' : (L : Int) ≤ (p : Int) := by omega
        have k0 : (0 : Int) ≤ (p : Int) := by omega
        have kp : (p : Int) ≤ 1048576 := by omega
        have k1 : (1 : Int) ≤ (L : Int) := by omega
        have q1 : p % L < L := Nat.mod_lt _ (by omega)
        have q2 : (7 * p + 3) % L < L := Nat.mod_lt _ (by omega)
        have c2 : (w.setCell ⟨g, 1, none⟩ (.int .i64 ((p : Int) + 1))).cell? ⟨b, o + p % L, none⟩ = some (.int .u8 (bs.getD (p % L) 0)) := by
          rw [World.cell?_setCell_other w _ _ _ (fun e => by injection e; omega)]; exact hcell _ q1
        have c3 : (w.setCell ⟨g, 1, none⟩ (.int .i64 ((p : Int) + 1))).cell? ⟨b, o + (7 * p + 3) % L, none⟩ = some (.int .u8 (bs.getD ((7 * p + 3) % L) 0)) := by
          rw [World.cell?_setCell_other w _ _ _ (fun e => by injection e; omega)]; exact hcell _ q2
        obtain ⟨y, hy⟩ : ∃ y, bs.getD (p % L) 0 = y := ⟨_, rfl⟩
        obtain ⟨z, hz⟩ : ∃ z, bs.getD ((7 * p + 3) % L) 0 = z := ⟨_, rfl⟩
        have hyb := HB.out (p % L)
        have hzb := HB.out ((7 * p + 3) % L)
        rw [hy] at c2 hyb
        rw [hz] at c3 hzb
        obtain ⟨hy0, hy1⟩ := hyb
        obtain ⟨hz0, hz1⟩ := hzb
        clear hcell hy hz
        obtain ⟨a, ha⟩ : ∃ a, p % L = a := ⟨_, rfl⟩
        obtain ⟨d, hd⟩ : ∃ d, (7 * p + 3) % L = d := ⟨_, rfl⟩
        rw [ha] at c2 q1
        rw [hd] at c3 q2
        have e1 : (p : Int).tmod (L : Int) = (a : Int) := by rw [← ha, Int.tmod_eq_emod_of_nonneg k0]; simp
        have e2 : IntKind.i64.wrap ((p : Int) * 7) = (p : Int) * 7 := IntWalk.i64_in _ (by omega)
        have e3 : IntKind.i64.wrap ((p : Int) * 7 + 3) = (p : Int) * 7 + 3 := IntWalk.i64_in _ (by omega)
        have e4 : ((p : Int) * 7 + 3).tmod (L : Int) = (d : Int) := by rw [← hd, Int.tmod_eq_emod_of_nonneg (by omega), Int.mul_comm]; simp
        have hLne : ¬ L = 0 := by omega
        have i1 : (a : Int) < (L : Int) := by omega
        have i2 : (d : Int) < (L : Int) := by omega
        clear ha hd
        go_enter Tryd.func56, Tryd.ntmps56
        go_wp2
        go_quiet (fail)
        go_wp2
        go_ret
        exact ⟨_, rfl, pick_fin hy0 hy1 hz0 hz1 hp h1', H1.out nq, H2.out nq⟩
end Go.Proofs.YtolbkdcnmkmncaaDoor

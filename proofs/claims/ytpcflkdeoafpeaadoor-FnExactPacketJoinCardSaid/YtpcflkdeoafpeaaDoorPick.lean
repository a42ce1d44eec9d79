/-
  The sum that the reference's reader makes behind the end of its code, and its rest by n. Conditions: bounds on its parts. Plain arithmetic, no program.
  The reference's reader of a code of bytes (l6Open, pick): pick returns a number from 0 to n-1, or 0, and turns nothing but the reader's own counter. Conditions: the code is a slice that came in; the counter is at most 2^20.
  What a draw of a list of integers leaves. Conditions: none.
  What draws out of literal lists need. Conditions: none.
-/
import Derived.WalkKit
import Derived.Laws.BitsAllLaws
import Derived.Laws.BitsLemmas
import Derived.IntWalk
import Derived.Test.YtpcflkdeoafpeaaDoorAppend
import Derived.Deep.QuietTactic
import Derived.BigQuiet
import Derived.OpenShut
namespace Go.Proofs.YtpcflkdeoafpeaaDoor
open Go.RowKit

def PickOk (n x : Int) : Prop := 0 ≤ x ∧ (x < n ∨ x = 0)

theorem ofInt_i64 (a : Nat) (ha : a < 9223372036854775808) : (BitVec.ofInt 64 (a : Int)).toNat = a := by
  rw [BitVec.ofInt_natCast, BitVec.toNat_ofNat]; exact Nat.mod_eq_of_lt (by omega)
theorem i64_xor_nat (a b : Nat) (ha : a < 9223372036854775808) (hb : b < 9223372036854775808) : bits .xor .i64 (a : Int) (b : Int) = ((a ^^^ b : Nat) : Int) := by
  have hx : a ^^^ b < 2 ^ 63 := Nat.xor_lt_two_pow (by omega) (by omega)
  show IntKind.i64.wrap ((BitVec.ofInt 64 (a : Int) ^^^ BitVec.ofInt 64 (b : Int)).toNat : Int) = _
  rw [BitVec.toNat_xor, ofInt_i64 a ha, ofInt_i64 b hb, IntKind.wrap_i64]
  omega

theorem pickOk_mod {x : Int} (n : Int) (_h0 : 0 ≤ x) (h : 1 ≤ n) : PickOk n (x % n) := ⟨Int.emod_nonneg _ (by omega), .inl (Int.emod_lt_of_pos _ (by omega))⟩

theorem pick_xor (x : Nat) (n : Int) (hxb : x ≤ 1000000000) (hn : 1 ≤ n) : PickOk n ((bits BinOp.xor IntKind.i64 (wrap64 (x : Int)) (wrap64 ((wrap64 (x : Int)).tdiv 64))).tmod n) := by
  have w3 : wrap64 (x : Int) = x := IntWalk.wrap64_in _ (by omega)
  rw [w3]
  have hd : (x : Int).tdiv 64 = ((x / 64 : Nat) : Int) := by rw [Int.tdiv_eq_ediv_of_nonneg (Int.natCast_nonneg _)]; simp
  rw [hd]
  have hq : x / 64 ≤ x := Nat.div_le_self _ _
  obtain ⟨y, hy⟩ : ∃ y, x / 64 = y := ⟨_, rfl⟩
  rw [hy] at hq ⊢
  have w4 : wrap64 (y : Int) = y := IntWalk.wrap64_in _ (by omega)
  rw [w4]
  rw [i64_xor_nat x y (by omega) (by omega)]
  rw [Int.tmod_eq_emod_of_nonneg (Int.natCast_nonneg _)]
  exact pickOk_mod n (Int.natCast_nonneg _) hn

theorem pick_fin {y z n : Int} {p L : Nat} (hy0 : 0 ≤ y) (hy1 : y ≤ 255) (hz0 : 0 ≤ z) (hz1 : z ≤ 255) (hp : p ≤ 1048576) (hn : 1 ≤ n) :
    PickOk n ((bits BinOp.xor IntKind.i64 (wrap64 (y * 131 + z * 1117 + (p : Int) * 29 + wrap64 (wrap64 ((p : Int) / (L : Int)) * 53))) (wrap64 ((wrap64 (y * 131 + z * 1117 + (p : Int) * 29 + wrap64 (wrap64 ((p : Int) / (L : Int)) * 53))).tdiv 64))).tmod n) := by
  have hs : ∃ x : Nat, y * 131 + z * 1117 + (p : Int) * 29 + wrap64 (wrap64 ((p : Int) / (L : Int)) * 53) = (x : Int) ∧ x ≤ 1000000000 := by
    obtain ⟨q, hq⟩ : ∃ q : Nat, p / L = q := ⟨_, rfl⟩
    have hq1 : q ≤ p := by rw [← hq]; exact Nat.div_le_self _ _
    have hqi : (p : Int) / (L : Int) = (q : Int) := by rw [← hq]; simp
    rw [hqi]
    have w1 : wrap64 (q : Int) = q := IntWalk.wrap64_in _ (by omega)
    rw [w1]
    have w2 : wrap64 ((q : Int) * 53) = (q : Int) * 53 := IntWalk.wrap64_in _ (by omega)
    rw [w2]
    exact ⟨(y * 131 + z * 1117 + (p : Int) * 29 + (q : Int) * 53).toNat, by omega, by omega⟩
  obtain ⟨x, hx, hb⟩ := hs
  rw [hx]
  exact pick_xor x n hb hn
end Go.Proofs.YtpcflkdeoafpeaaDoor
namespace Go.Proofs.YtpcflkdeoafpeaaDoor
open Go.RowKit

/-- Block g is a reader over a code below block hi, at place p. -/
def Rd6 (w : World) (hi g p : Nat) : Prop :=
  hi ≤ g ∧ ∃ v bs, w.heap[g]? = some (.cells #[v, .int .i64 (p : Int)] 58 (0, 0)) ∧ Came .u8 w hi v bs

theorem Rd6.keep {w w' : World} {hi g p : Nat} (h : Rd6 w hi g p) (hg : w'.heap[g]? = w.heap[g]?) (hb : ∀ b, b < hi → w'.heap[b]? = w.heap[b]?) : Rd6 w' hi g p := by
  obtain ⟨h1, v, bs, h2, h3⟩ := h
  exact ⟨h1, v, bs, hg.trans h2, h3.keep hb⟩
theorem Rd6.lt {w : World} {hi g p : Nat} (h : Rd6 w hi g p) : g < w.heap.size := by
  obtain ⟨_, v, bs, h2, _⟩ := h
  exact (Array.getElem?_eq_some_iff.1 h2).1
theorem Rd6.below {w w' : World} {hi g p : Nat} (h : Rd6 w hi g p) (hb : Below w.heap.size w w') : Rd6 w' hi g p := by
  have := h.lt
  have h1 := h.1
  exact h.keep (hb.block g this) fun b hb' => hb.block b (by omega)
theorem Rd6.drewN {w : World} {hi g p : Nat} (h : Rd6 w hi g p) (n : Nat) : Rd6 (w.drewN n) hi g p := h
theorem Rd6.alloc {w : World} {hi g p : Nat} (h : Rd6 w hi g p) (o : Obj) : Rd6 (w.alloc o) hi g p := h.below ((Below.refl _ _).alloc (Nat.le_refl _) o)

theorem Rd6.own {w w' : World} {hi g p base : Nat} {v : Value} {zs : List Int} (hr : Rd6 w hi g p) (h : Own w base v zs) (hg : w.grownBy w' (some g)) : Own w' base v zs := by
  obtain ⟨_, v', bs, hh, _⟩ := hr
  exact h.grown hg hh (by decide)
theorem Rd6.ints {w w' : World} {hi g p lo : Nat} {v : Value} {zs : List Int} (hr : Rd6 w hi g p) (h : Ints w lo v zs) (hg : w.grownBy w' (some g)) : Ints w' lo v zs := by
  obtain ⟨_, v', bs, hh, _⟩ := hr
  exact h.grown hg hh (by decide)
theorem Rd6.seg {w w' : World} {hi g p b o : Nat} {xs : List Value} (hr : Rd6 w hi g p) (h : Seg w 3 b o xs) (hg : w.grownBy w' (some g)) : Seg w' 3 b o xs := by
  obtain ⟨_, v', bs, hh, _⟩ := hr
  refine h.grown hg fun he => ?_
  injection he with he
  exact Seg.ne_ h (b' := g) (o' := 0) (ys := []) ⟨_, hh, fun j u hu => by simp at hu⟩ (by decide) he
/-- The own row's append turns no reader. -/
theorem Rd6.append {w w' : World} {hi g p base : Nat} {v : Value} {zs : List Int} (hr : Rd6 w hi g p) (h : Own w base v zs) (hg : w.grownBy w' v.ownBlock) (hb : hi ≤ base) : Rd6 w' hi g p := by
  have hlt := hr.lt
  have h1 := hr.1
  refine hr.keep (hg.block g hlt ?_) fun b hb' => hg.block b (by omega) ?_
  · intro he
    obtain ⟨_, v', bs, hh, _⟩ := hr
    rcases h.2 with ⟨rfl, _⟩ | ⟨g', cap, cur, rfl, _, hh', _⟩
    · simp [Value.ownBlock] at he
    · have : g = g' := by simpa [Value.ownBlock] using he
      subst this
      rw [hh] at hh'
      injection hh' with hh'
      injection hh' with _ ht
      exact absurd ht (by decide)
  · intro he
    have := (World.ownsRow.lt h b he.symm).1
    omega

theorem l6Open_any (v : Value) (bs : List Int) (hi : Nat) (w : World) (hv : Came .u8 w hi v bs) (hh : hi ≤ w.heap.size) :
    Calls Tryd.prog 16 #[v] w fun e w' => e = .returned (.pointer (some ⟨w.heap.size, 0, none⟩)) ∧ Rd6 w' hi w.heap.size 0 ∧ Below w.heap.size w w' := by
  have hv0 := Lib.hid hv
  obtain ⟨A, c, rfl, hc, hm, hw, hA⟩ := hv
  by_cases hl : 2000 < bs.length
  · obtain ⟨b, o, rfl, hb, hcell⟩ := hA.resolve_left (fun h => by rw [h] at hl; simp at hl)
    have hi2 : (2000 : Int) < (bs.length : Int) := by omega
    have hi3 : (2000 : Int) ≤ (c : Int) := by omega
    have HC := Lib.hid hcell
    have HW := Lib.hid hw
    clear hcell hw
    go_enter Tryd.func16, Tryd.ntmps16
    go_wp2
    go_ret
    refine ⟨rfl, ⟨hh, _, bs.take 2000, heap_alloc_new w _, ?_⟩, (Below.refl _ _).alloc (Nat.le_refl _) _⟩
    exact (Came.front hb HW.out HC.out (m := 2000) (c := c) (by omega) (by omega) hm).keep fun b hb => Below.heap_alloc w _ b (by omega)
  · have hi2 : (bs.length : Int) ≤ 2000 := by omega
    clear hA hw
    go_enter Tryd.func16, Tryd.ntmps16
    go_wp2
    go_ret
    refine ⟨rfl, ⟨hh, _, bs, heap_alloc_new w _, ?_⟩, (Below.refl _ _).alloc (Nat.le_refl _) _⟩
    exact hv0.out.keep fun b hb => Below.heap_alloc w _ b (by omega)

set_option maxHeartbeats 1000000 in
theorem pick_any (hi g p : Nat) (n : Int) (w : World) (hr : Rd6 w hi g p) (hp : p ≤ 1048576) (hn : n ≤ 9223372036854775807) :
    Calls Tryd.prog 20 #[.pointer (some ⟨g, 0, none⟩), .int .i64 n] w fun e w' => ∃ x, e = .returned (.int .i64 x) ∧ PickOk n x ∧ Rd6 w' hi g (p + 1) ∧ w.grownBy w' (some g) := by
  obtain ⟨hg, v, bs, hh, hv⟩ := hr
  have hv0 := Lib.hid hv
  obtain ⟨A, c, rfl, hc, hm, hw, hA⟩ := hv
  have c0 : w.cell? ⟨g, 0, none⟩ = some (.slice A bs.length c) := by rw [cell_of_row w g 0 _ _ _ hh]; rfl
  have c1 : w.cell? ⟨g, 1, none⟩ = some (.int .i64 p) := by rw [cell_of_row w g 1 _ _ _ hh]; rfl
  have f1 := frozen_of_row w g 1 _ _ hh
  have HR : ∀ k : Nat, Rd6 ((w.setCell ⟨g, 1, none⟩ (.int .i64 ((p + 1 : Nat) : Int))).drewN k) hi g (p + 1) := fun k => by
    refine ⟨hg, _, bs, (heap_setCell_same w g 1 _ _ _ hh).trans rfl, hv0.out.keep fun b hb => ?_⟩
    exact Below.heap_setCell w _ _ b (by show b ≠ g; omega)
  have HG : ∀ k : Nat, w.grownBy ((w.setCell ⟨g, 1, none⟩ (.int .i64 ((p + 1 : Nat) : Int))).drewN k) (some g) := fun k =>
    only_drewN (only_setCell (p := ⟨g, 1, none⟩) (World.grownBy.refl w _) (.inl rfl) _) k
  have H1 := Lib.hid HR
  have H2 := Lib.hid HG
  clear HR HG
  have HH := Lib.hid hh
  clear hh
  by_cases h1 : n < 1
  · go_enter Tryd.func20, Tryd.ntmps20
    go_wp2
    go_ret
    refine ⟨0, rfl, ⟨Int.le_refl _, .inr rfl⟩, H1.out 0, H2.out 0⟩
  · have h1' : 1 ≤ n := by omega
    by_cases h2 : bs = []
    · subst h2
      go_enter Tryd.func20, Tryd.ntmps20
      go_wp2
      go_ret
      refine ⟨0, rfl, ⟨Int.le_refl _, .inr rfl⟩, H1.out 0, H2.out 0⟩
    · obtain ⟨b, o, rfl, hb, hcell⟩ := hA.resolve_left h2
      have hL : 1 ≤ bs.length := by cases bs with | nil => exact absurd rfl h2 | cons x l => simp
      have hL0 : ((bs.length : Int) == 0) = false := by simp; omega
      have hbd : ∀ j, 0 ≤ bs.getD j 0 ∧ bs.getD j 0 ≤ 255 := fun j => by simpa [List.getD] using range_u8 hw j
      clear hA h2
      obtain ⟨L, hLn⟩ : ∃ L, bs.length = L := ⟨_, rfl⟩
      rw [hLn] at hc hL hL0 c0 hcell
      have HN := Lib.hid hLn
      have HB := Lib.hid hbd
      clear hLn hbd hw
      by_cases h3 : p < L
      · have c2 : (w.setCell ⟨g, 1, none⟩ (.int .i64 ((p : Int) + 1))).cell? ⟨b, o + p, none⟩ = some (.int .u8 (bs.getD p 0)) := by
          rw [World.cell?_setCell_other w _ _ _ (fun e => by injection e; omega)]; exact hcell p h3
        obtain ⟨y, hy⟩ : ∃ y, bs.getD p 0 = y := ⟨_, rfl⟩
        have hyb := HB.out p
        rw [hy] at c2 hyb
        obtain ⟨hy0, hy1⟩ := hyb
        have h3' : (p : Int) < (L : Int) := by omega
        clear hcell hy
        go_enter Tryd.func20, Tryd.ntmps20
        go_wp2
        go_ret
        exact ⟨_, rfl, pickOk_mod n hy0 h1', H1.out 0, H2.out 0⟩
      · have h3' : (L : Int) ≤ (p : Int) := by omega
        have k0 : (0 : Int) ≤ (p : Int) := by omega
        have kp : (p : Int) ≤ 1048576 := by omega
        have k1 : (1 : Int) ≤ (L : Int) := by omega
        have q1 : p % L < L := Nat.mod_lt _ (by omega)
        have q2 : (7 * p + 3) % L < L := Nat.mod_lt _ (by omega)
        have c2 : (w.setCell ⟨g, 1, none⟩ (.int .i64 ((p : Int) + 1))).cell? ⟨b, o + p % L, none⟩ = some (.int .u8 (bs.getD (p % L) 0)) := by
          rw [World.cell?_setCell_other w _ _ _ (fun e => by injection e; omega)]; exact hcell _ q1
        have c3 : (w.setCell ⟨g, 1, none⟩ (.int .i64 ((p : Int) + 1))).cell? ⟨b, o + (7 * p + 3) % L, none⟩ = some (.int .u8 (bs.getD ((7 * p + 3) % L) 0)) := by
          rw [World.cell?_setCell_other w _ _ _ (fun e => by injection e; omega)]; exact hcell _ q2
        obtain ⟨y, hy⟩ : ∃ y, bs.getD (p % L) 0 = y := ⟨_, rfl⟩
        obtain ⟨z, hz⟩ : ∃ z, bs.getD ((7 * p + 3) % L) 0 = z := ⟨_, rfl⟩
        have hyb := HB.out (p % L)
        have hzb := HB.out ((7 * p + 3) % L)
        rw [hy] at c2 hyb
        rw [hz] at c3 hzb
        obtain ⟨hy0, hy1⟩ := hyb
        obtain ⟨hz0, hz1⟩ := hzb
        clear hcell hy hz
        obtain ⟨a, ha⟩ : ∃ a, p % L = a := ⟨_, rfl⟩
        obtain ⟨d, hd⟩ : ∃ d, (7 * p + 3) % L = d := ⟨_, rfl⟩
        rw [ha] at c2 q1
        rw [hd] at c3 q2
        have e1 : (p : Int).tmod (L : Int) = (a : Int) := by rw [← ha, Int.tmod_eq_emod_of_nonneg k0]; simp
        have e2 : IntKind.i64.wrap ((p : Int) * 7) = (p : Int) * 7 := IntWalk.i64_in _ (by omega)
        have e3 : IntKind.i64.wrap ((p : Int) * 7 + 3) = (p : Int) * 7 + 3 := IntWalk.i64_in _ (by omega)
        have e4 : ((p : Int) * 7 + 3).tmod (L : Int) = (d : Int) := by rw [← hd, Int.tmod_eq_emod_of_nonneg (by omega), Int.mul_comm]; simp
        have hLne : ¬ L = 0 := by omega
        have i1 : (a : Int) < (L : Int) := by omega
        have i2 : (d : Int) < (L : Int) := by omega
        clear ha hd
        go_enter Tryd.func20, Tryd.ntmps20
        go_wp2
        go_quiet (fail)
        go_wp2
        go_ret
        exact ⟨_, rfl, pick_fin hy0 hy1 hz0 hz1 hp h1', H1.out nq, H2.out nq⟩
end Go.Proofs.YtpcflkdeoafpeaaDoor
namespace Go.Proofs.YtpcflkdeoafpeaaDoor
open Go.RowKit

/-- Behind a draw of a list of integers: the list, its length's bound, the reader's new place. -/
def DrewInts (w : World) (hi g p m q : Nat) (e : Ending) (w' : World) : Prop :=
  ∃ v zs p', e = .returned v ∧ Own w' w.heap.size v zs ∧ zs.length ≤ m ∧ p' ≤ p + q ∧ Rd6 w' hi g p' ∧ w.grownBy w' (some g)
def DrewInt (w : World) (e : Ending) (w' : World) : Prop := ∃ y : Int, e = .returned (.int .i64 y) ∧ Below w.heap.size w w'
def DrewOne (w : World) (e : Ending) (w' : World) : Prop := ∃ v zs, e = .returned v ∧ Ints w' 0 v zs ∧ zs.length ≤ 2000 ∧ Below w.heap.size w w'
end Go.Proofs.YtpcflkdeoafpeaaDoor
namespace Go.Proofs.YtpcflkdeoafpeaaDoor
open Go.RowKit

theorem pick_nat {n : Nat} {x : Int} (hn : 1 ≤ n) (h : PickOk n x) : ∃ j : Nat, x = j ∧ j < n := by
  obtain ⟨h0, h1⟩ := h
  exact ⟨x.toNat, by omega, by omega⟩
theorem pick_lit {n : Int} {x : Int} (m : Nat) (hm : n = m) (hn : 1 ≤ m) (h : PickOk n x) : ∃ j : Nat, x = j ∧ j < m := by
  subst hm
  exact pick_nat hn h
theorem own_lit_cell {w w' : World} {hi g p : Nat} {L : List Int} (hr : Rd6 (w.alloc (.cells (iv L).toArray 3)) hi g p) (hg : (w.alloc (.cells (iv L).toArray 3)).grownBy w' (some g)) (hL : L.length ≤ 1000) {j : Nat} (hj : j < L.length) :
    w'.cell? ⟨w.heap.size, j, none⟩ = some (.int .i64 (L.getD j 0)) :=
  (hr.own (Own.lit w L 0 (Nat.zero_le _) (by omega)) hg).cell hj
end Go.Proofs.YtpcflkdeoafpeaaDoor

/-
  The draws of the laws on picks and hellos: an integer, or a list of integers, and nothing that was there has turned. Conditions: the code is a slice that came in.
-/
import Derived.Test.YticlgmdmkomdbaaDrawBytes
import Derived.Test.YticlgmdmkomdbaaPickFrom
namespace Go.Proofs.Yticlgmdmkomdbaa
open Go.RowKit

def DrewInt (w : World) (e : Ending) (w' : World) : Prop := ∃ y : Int, e = .returned (.int .i64 y) ∧ Below w.heap.size w w'
def DrewOne (w : World) (e : Ending) (w' : World) : Prop := ∃ v zs, e = .returned v ∧ Ints w' 0 v zs ∧ zs.length ≤ 2000 ∧ Below w.heap.size w w'

set_option maxRecDepth 100000 in
theorem DrawPickBytes_any (v : Value) (bs : List Int) (w : World) (hv : Came .u8 w w.heap.size v bs) : Calls Try.prog 37 #[v] w fun e w' => DrewInt w e w' := by
  go_enter Try.func37, Try.ntmps37
  go_wp2_with fail
  refine (l6Open_any _ bs w.heap.size _ hv (Nat.le_refl _)).mono ?_
  rintro e w1 ⟨rfl, hr, hb⟩
  have R1 := Lib.hid hr
  have B1 := Lib.hid hb
  have hs1 := hb.size
  clear hr hb
  go_wp2_with fail
  refine (pick_any w.heap.size w.heap.size 0 256 _ R1.out (by omega) (by omega)).mono ?_
  rintro e w2 ⟨x, rfl, _, hr2, hg2⟩
  have R2 := Lib.hid hr2
  have B2 := Lib.hid (below_only B1.out hg2 (by omega) (Nat.le_refl _))
  have hs2 := B2.out.size
  clear hr2 hg2
  go_wp2_with fail
  refine (pick_any w.heap.size w.heap.size 1 6 _ (R2.out.alloc _) (by omega) (by omega)).mono ?_
  rintro e w3 ⟨x2, rfl, hx2, hr3, hg3⟩
  obtain ⟨j, rfl, hj⟩ := pick_lit 6 rfl (by omega) hx2
  have cj := own_lit_cell (L := [0, 2, 255, 256, -1, x]) (R2.out.alloc _) hg3 (by simp) (j := j) (by simpa using hj)
  obtain ⟨y, hy⟩ : ∃ y, ([0, 2, 255, 256, -1, x] : List Int).getD j 0 = y := ⟨_, rfl⟩
  rw [hy] at cj
  have hji : (j : Int) < 6 := by omega
  have B3 := Lib.hid (below_only (B2.out.alloc hs2 _) hg3 (by simp; omega) (Nat.le_refl _))
  clear hr3 hg3 hx2 hy
  go_wp2_with fail
  go_ret
  exact ⟨y, rfl, B3.out⟩

set_option maxRecDepth 100000 in
theorem DrawPickFrom_any (v : Value) (bs : List Int) (w : World) (hv : Came .u8 w w.heap.size v bs) : Calls Try.prog 53 #[v] w fun e w' => DrewOne w e w' := by
  go_enter Try.func53, Try.ntmps53
  go_wp2_with fail
  refine (l6Open_any _ bs w.heap.size _ hv (Nat.le_refl _)).mono ?_
  rintro e w1 ⟨rfl, hr, hb⟩
  have R1 := Lib.hid hr
  have B1 := Lib.hid hb
  have hs1 := hb.size
  clear hr hb
  go_wp2_with fail
  refine (pick_any w.heap.size w.heap.size 0 256 _ R1.out (by omega) (by omega)).mono ?_
  rintro e w2 ⟨x, rfl, _, hr2, hg2⟩
  have R2 := Lib.hid hr2
  have B2 := Lib.hid (below_only B1.out hg2 (by omega) (Nat.le_refl _))
  have hs2 := B2.out.size
  clear hr2 hg2
  go_wp2_with fail
  refine (spec_PickBytes_any x _).mono ?_
  rintro e w3 ⟨v3, rfl, o3, b3⟩
  have R3 := Lib.hid (R2.out.below b3)
  have B3 := Lib.hid (B2.out.trans (b3.mono hs2))
  have O3 := Lib.hid (o3.more hs2)
  have HL : Hid ((pickB x).length ≤ 2) := Lib.hid (by unfold pickB; split <;> simp)
  clear o3 b3
  go_wp2_with fail
  refine (l91Changed_any w.heap.size w.heap.size w.heap.size 1 2 _ _ _ R3.out (by omega) O3.out HL.out (by omega) (Nat.le_refl _) (Nat.le_refl _)).mono ?_
  rintro e w4 ⟨v4, zs, p4, rfl, o4, hl4, _, _, b4⟩
  have O4 := Lib.hid o4.ints.zero
  have B4 := Lib.hid (B3.out.trans b4)
  clear o4 b4
  go_wp2_with fail
  go_ret
  exact ⟨_, zs, rfl, O4.out, by omega, B4.out⟩

set_option maxRecDepth 100000 in
theorem DrawHelloBytes_any (v : Value) (bs : List Int) (w : World) (hv : Came .u8 w w.heap.size v bs) : Calls Try.prog 56 #[v] w fun e w' => DrewOne w e w' := by
  go_enter Try.func56, Try.ntmps56
  go_wp2_with fail
  refine (l6Open_any _ bs w.heap.size _ hv (Nat.le_refl _)).mono ?_
  rintro e w1 ⟨rfl, hr, hb⟩
  have R1 := Lib.hid hr
  have B1 := Lib.hid hb
  have hs1 := hb.size
  clear hr hb
  go_wp2_with fail
  refine (l91Methods_any w.heap.size w.heap.size 0 _ R1.out (by omega)).mono ?_
  rintro e w2 ⟨v2, z2, p2, rfl, o2, l2, hp2, hr2, hg2⟩
  have O2 := Lib.hid o2.ints.zero
  have B2 := Lib.hid (below_only B1.out hg2 (by omega) (Nat.le_refl _))
  clear o2 hr2 hg2
  go_wp2_with fail
  go_ret
  exact ⟨_, z2, rfl, O2.out, by omega, B2.out⟩

theorem helloL_len (a : List Int) : (helloL a).length ≤ 10 := by
  cases h : methodsOk a
  · rw [helloL_not h]; simp
  · rw [helloL_ok h]
    have := methodsOk_len h
    simp
    omega
set_option maxRecDepth 100000 in
theorem DrawHelloFrom_any (v : Value) (bs : List Int) (w : World) (hv : Came .u8 w w.heap.size v bs) : Calls Try.prog 61 #[v] w fun e w' => DrewOne w e w' := by
  go_enter Try.func61, Try.ntmps61
  go_wp2_with fail
  refine (l6Open_any _ bs w.heap.size _ hv (Nat.le_refl _)).mono ?_
  rintro e w1 ⟨rfl, hr, hb⟩
  have R1 := Lib.hid hr
  have B1 := Lib.hid hb
  have hs1 := hb.size
  clear hr hb
  go_wp2_with fail
  refine (l91Methods_any w.heap.size w.heap.size 0 _ R1.out (by omega)).mono ?_
  rintro e w2 ⟨v2, z2, p2, rfl, o2, l2, hp2, hr2, hg2⟩
  have O2 := Lib.hid o2.ints.zero
  have R2 := Lib.hid hr2
  have B2 := Lib.hid (below_only B1.out hg2 (by omega) (Nat.le_refl _))
  have hs2 := B2.out.size
  clear o2 hr2 hg2
  go_wp2_with fail
  refine (spec_HelloBytes_any _ z2 _ O2.out).mono ?_
  rintro e w3 ⟨v3, rfl, o3, b3⟩
  have R3 := Lib.hid (R2.out.below b3)
  have B3 := Lib.hid (B2.out.trans (b3.mono hs2))
  have O3 := Lib.hid (o3.more hs2)
  clear o3 b3
  obtain ⟨ok, hok⟩ : ∃ ok, methodsOk z2 = ok := ⟨_, rfl⟩
  rw [hok]
  clear hok
  go_wp2_with fail
  refine (l91Changed_any w.heap.size w.heap.size w.heap.size p2 10 _ _ _ R3.out (by omega) O3.out (helloL_len z2) (by omega) (Nat.le_refl _) (Nat.le_refl _)).mono ?_
  rintro e w4 ⟨v4, zs, p4, rfl, o4, hl4, _, _, b4⟩
  have O4 := Lib.hid o4.ints.zero
  have B4 := Lib.hid (B3.out.trans b4)
  clear o4 b4
  go_wp2_with fail
  go_ret
  exact ⟨_, zs, rfl, O4.out, by omega, B4.out⟩
end Go.Proofs.Yticlgmdmkomdbaa

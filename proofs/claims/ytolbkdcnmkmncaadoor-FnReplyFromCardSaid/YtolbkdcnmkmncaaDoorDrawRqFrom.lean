/-
  The drawn bytes of a request, and of a reply, changed here and there. Conditions: none.
-/
import Derived.Test.YtolbkdcnmkmncaaDoorDrawRq
import Derived.Test.YtolbkdcnmkmncaaDoorChanged
import Derived.Test.YtolbkdcnmkmncaaDoorReqBytes
namespace Go.Proofs.YtolbkdcnmkmncaaDoor
open Go.RowKit

/-- Behind a draw of bytes from a code. -/
def DrewZs (w : World) (e : Ending) (w' : World) : Prop := ∃ v zs, e = .returned v ∧ Ints w' 0 v zs ∧ zs.length ≤ 1000 ∧ Below w.heap.size w w'
theorem rqL_len100 (c k : Int) (qs : List Int) (nm : ByteArray) (p : Int) : (rqL c k qs nm p).length ≤ 100 := by
  cases h : rqOk c k qs nm p
  · rw [rqL_not h]; simp
  · rw [rqL_ok h]
    have := adB_length (show adOk k qs nm p = true by rw [rqOk, Bool.and_eq_true] at h; exact h.2)
    simp
    omega
theorem rpL_len100 (c k : Int) (qs : List Int) (nm : ByteArray) (p : Int) : (rpL c k qs nm p).length ≤ 100 := by
  cases h : rpOk c k qs nm p
  · rw [rpL_not h]; simp
  · rw [rpL_ok h]
    have := adB_length (show adOk k qs nm p = true by rw [rpOk, Bool.and_eq_true] at h; exact h.2)
    simp
    omega

set_option maxRecDepth 100000 in
set_option maxHeartbeats 2000000 in
theorem DrawRequestFrom_any (v : Value) (bs : List Int) (w : World) (hv : Came .u8 w w.heap.size v bs) : Calls Tryd.prog 21 #[v] w fun e w' => DrewZs w e w' := by
  go_enter Tryd.func21, Tryd.ntmps21
  go_wp2_with fail
  refine (l6Open_any _ bs w.heap.size _ hv (Nat.le_refl _)).mono ?_
  rintro e w1 ⟨rfl, hr, hb⟩
  have R1 := Lib.hid hr
  have B1 := Lib.hid hb
  have hs1 := hb.size
  have hlt := hr.lt
  clear hr hb
  go_wp2_with fail
  refine (l92Request_any w.heap.size w.heap.size 0 _ R1.out (by omega)).mono ?_
  rintro e w2 ⟨c, k, q, qs, nm, pt, p2, rfl, o2, l2, hm, hp2, hr2, hg2⟩
  obtain ⟨A2, c2, rfl, _, _, _⟩ := o2.form
  have R2 := Lib.hid hr2
  have I2 := Lib.hid o2.ints.zero
  have B2 := Lib.hid (below_only B1.out hg2 (by omega) (Nat.le_refl _))
  have hs2 := B2.out.size
  have hns : nm.size < 4294967281 := by omega
  have HL := Lib.hid (rqL_len100 c k qs nm pt)
  clear hr2 hg2 o2
  go_wp2_with fail
  refine (spec_RequestBytes_any c k _ nm pt qs _ I2.out hns).mono ?_
  rintro e w3 ⟨v3, rfl, o3, b3⟩
  have R3 := Lib.hid (R2.out.below b3)
  have B3 := Lib.hid (B2.out.trans (b3.mono hs2))
  have O3 := Lib.hid (o3.more hs2)
  clear o3 b3
  obtain ⟨L, hL⟩ : ∃ L, rqL c k qs nm pt = L := ⟨_, rfl⟩
  obtain ⟨ok, hok⟩ : ∃ ok, rqOk c k qs nm pt = ok := ⟨_, rfl⟩
  rw [hL] at O3 HL
  rw [hok]
  clear hok hL
  go_wp2_with fail
  refine (l91Changed_any w.heap.size w.heap.size w.heap.size p2 100 _ _ _ R3.out (by omega) O3.out HL.out (by omega) (Nat.le_refl _) (Nat.le_refl _)).mono ?_
  rintro e w4 ⟨v4, zs, p4, rfl, o4, hl4, _, _, b4⟩
  have O4 := Lib.hid o4.ints.zero
  have B4 := Lib.hid (B3.out.trans b4)
  clear o4 b4
  go_wp2_with fail
  go_ret
  exact ⟨_, zs, rfl, O4.out, by omega, B4.out⟩

set_option maxRecDepth 100000 in
set_option maxHeartbeats 2000000 in
theorem DrawReplyFrom_any (v : Value) (bs : List Int) (w : World) (hv : Came .u8 w w.heap.size v bs) : Calls Tryd.prog 15 #[v] w fun e w' => DrewZs w e w' := by
  go_enter Tryd.func15, Tryd.ntmps15
  go_wp2_with fail
  refine (l6Open_any _ bs w.heap.size _ hv (Nat.le_refl _)).mono ?_
  rintro e w1 ⟨rfl, hr, hb⟩
  have R1 := Lib.hid hr
  have B1 := Lib.hid hb
  have hs1 := hb.size
  have hlt := hr.lt
  clear hr hb
  go_wp2_with fail
  refine (pick_any w.heap.size w.heap.size 0 9 _ R1.out (by omega) (by omega)).mono ?_
  rintro e w1' ⟨x, rfl, _, r1', g1'⟩
  have R1' := Lib.hid r1'
  have B1' := Lib.hid (below_only B1.out g1' (by omega) (Nat.le_refl _))
  have hs1' := B1'.out.size
  have hlt' := g1'.size
  clear r1' g1'
  go_wp2_with fail
  refine (l91Address_any w.heap.size w.heap.size (0 + 1) _ R1'.out (by omega)).mono ?_
  rintro e w2 ⟨k, q, qs, nm, pt, p2, rfl, o2, l2, hm, hp2, hr2, hg2⟩
  obtain ⟨A2, c2, rfl, _, _, _⟩ := o2.form
  have R2 := Lib.hid hr2
  have I2 := Lib.hid o2.ints.zero
  have B2 := Lib.hid (below_only B1'.out hg2 (by omega) (Nat.le_refl _))
  have hs2 := B2.out.size
  have hns : nm.size < 4294967281 := by omega
  have HL := Lib.hid (rpL_len100 x k qs nm pt)
  clear hr2 hg2 o2
  go_wp2_with fail
  refine (spec_ReplyBytes_any x k _ nm pt qs _ I2.out hns).mono ?_
  rintro e w3 ⟨v3, rfl, o3, b3⟩
  have R3 := Lib.hid (R2.out.below b3)
  have B3 := Lib.hid (B2.out.trans (b3.mono hs2))
  have O3 := Lib.hid (o3.more hs2)
  clear o3 b3
  obtain ⟨L, hL⟩ : ∃ L, rpL x k qs nm pt = L := ⟨_, rfl⟩
  obtain ⟨ok, hok⟩ : ∃ ok, rpOk x k qs nm pt = ok := ⟨_, rfl⟩
  rw [hL] at O3 HL
  rw [hok]
  clear hok hL
  go_wp2_with fail
  refine (l91Changed_any w.heap.size w.heap.size w.heap.size p2 100 _ _ _ R3.out (by omega) O3.out HL.out (by omega) (Nat.le_refl _) (Nat.le_refl _)).mono ?_
  rintro e w4 ⟨v4, zs, p4, rfl, o4, hl4, _, _, b4⟩
  have O4 := Lib.hid o4.ints.zero
  have B4 := Lib.hid (B3.out.trans b4)
  clear o4 b4
  go_wp2_with fail
  go_ret
  exact ⟨_, zs, rfl, O4.out, by omega, B4.out⟩
end Go.Proofs.YtolbkdcnmkmncaaDoor

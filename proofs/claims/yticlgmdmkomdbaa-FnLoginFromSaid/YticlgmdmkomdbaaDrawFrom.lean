/-
  The drawn bytes of a login, changed here and there. Conditions: none.
-/
import Derived.Test.YticlgmdmkomdbaaDrawLogin
import Derived.Test.YticlgmdmkomdbaaDrawHello
import Derived.Test.YticlgmdmkomdbaaLoginBytes2
namespace Go.Proofs.Yticlgmdmkomdbaa
open Go.RowKit

theorem loginL_len100 {u v : ByteArray} (hu : u.size ≤ 9) (hv : v.size ≤ 9) : (loginL u v).length ≤ 100 := by
  cases h : loginOk u v
  · rw [loginL_not h]; simp
  · rw [loginL_ok h, loginB_length]; omega

set_option maxRecDepth 100000 in
set_option maxHeartbeats 2000000 in
theorem DrawLoginFrom_any (v : Value) (bs : List Int) (w : World) (hv : Came .u8 w w.heap.size v bs) : Calls Try.prog 62 #[v] w fun e w' => DrewOne w e w' := by
  go_enter Try.func62, Try.ntmps62
  go_wp2_with fail
  refine (l6Open_any _ bs w.heap.size _ hv (Nat.le_refl _)).mono ?_
  rintro e w1 ⟨rfl, hr, hb⟩
  have R1 := Lib.hid hr
  have B1 := Lib.hid hb
  have hs1 := hb.size
  clear hr hb
  go_wp2_with fail
  refine (l92Login_any w.heap.size w.heap.size 0 _ R1.out (by omega)).mono ?_
  rintro e w2 ⟨x, y, p2, rfl, hx, hy, hp2, hr2, hg2⟩
  have R2 := Lib.hid hr2
  have B2 := Lib.hid (below_only B1.out hg2 (by omega) (Nat.le_refl _))
  have hs2 := B2.out.size
  have HX : Hid (x.size ≤ maxLen) := Lib.hid (by unfold maxLen; omega)
  have HY : Hid (y.size ≤ maxLen) := Lib.hid (by unfold maxLen; omega)
  have HL := Lib.hid (loginL_len100 hx hy)
  clear hr2 hg2 hx hy
  go_wp2_with fail
  refine (spec_LoginBytes_any x y _ HX.out HY.out).mono ?_
  rintro e w3 ⟨v3, rfl, o3, b3⟩
  have R3 := Lib.hid (R2.out.below b3)
  have B3 := Lib.hid (B2.out.trans (b3.mono hs2))
  have O3 := Lib.hid (o3.more hs2)
  clear o3 b3
  obtain ⟨L, hL⟩ : ∃ L, loginL x y = L := ⟨_, rfl⟩
  obtain ⟨ok, hok⟩ : ∃ ok, loginOk x y = ok := ⟨_, rfl⟩
  rw [hL] at O3 HL
  rw [hok]
  clear hok hL
  go_wp2_with fail
  refine (l91Changed_any w.heap.size w.heap.size w.heap.size p2 100 _ _ _ R3.out (by omega) O3.out HL.out (by omega) (Nat.le_refl _) (Nat.le_refl _)).mono ?_
  rintro e w4 ⟨v4, zs, p4, rfl, o4, hl4, _, _, b4⟩
  have O4 := Lib.hid o4.ints.zero
  have B4 := Lib.hid (B3.out.trans b4)
  clear o4 b4
  go_wp2_with fail
  go_ret
  exact ⟨_, zs, rfl, O4.out, by omega, B4.out⟩
end Go.Proofs.Yticlgmdmkomdbaa

/-
  HelloBytes of the program and of the reference return the same bytes, in memory of their own, or fail alike. Conditions: the slice reads as a list of integers.
-/
import Derived.Test.YticlgmdmkomdbaaMethods
import Derived.Test.YticlgmdmkomdbaaAppend
namespace Go.Proofs.Yticlgmdmkomdbaa
open Go.RowKit

def helloL (a : List Int) : List Int := if methodsOk a = true then 5 :: (a.length : Int) :: a else []
theorem helloL_ok {a : List Int} (h : methodsOk a = true) : helloL a = 5 :: (a.length : Int) :: a := by simp [helloL, h]
theorem helloL_not {a : List Int} (h : methodsOk a = false) : helloL a = [] := by simp [helloL, h]
theorem methodsOk_len {a : List Int} (h : methodsOk a = true) : 1 ≤ a.length ∧ a.length ≤ 8 := by
  unfold methodsOk at h
  rw [Bool.and_eq_true] at h
  have h2 := h.2
  simp [inR] at h2
  omega

/-- A list of bytes that may fail: the slice, and whether it is there. -/
def Gave (w : World) (zs : List Int) (ok : Bool) (e : Ending) (w' : World) : Prop :=
  ∃ v, e = .returned (.tuple #[v, .bool ok]) ∧ Own w' w.heap.size v zs ∧ Below w.heap.size w w'

set_option maxHeartbeats 400000 in
theorem impl_HelloBytes_any (v : Value) (a : List Int) (w : World) (hv : Ints w 0 v a) :
    Calls Try.prog 46 #[v] w fun e w' => Gave w (helloL a) (methodsOk a) e w' := by
  have HV := Lib.hid hv
  obtain ⟨A, c, rfl, hc, hm, _⟩ := hv.open_
  clear hv
  cases h1 : methodsOk a
  · have HS : Hid (helloL a = []) := Lib.hid (helloL_not h1)
    go_enter Try.func46, Try.ntmps46
    go_wp2_with fail
    refine (areMethods_any _ a _ HV.out).mono ?_
    rintro e w' ⟨rfl, rfl⟩
    go_wp2_with fail
    go_ret2
    exact ⟨_, rfl, by rw [HS.out]; exact Own.nil_ _ _, Below.refl _ _⟩
  · have HS : Hid (helloL a = [5, (a.length : Int)] ++ a) := Lib.hid (helloL_ok h1)
    have hl := methodsOk_len h1
    go_enter Try.func46, Try.ntmps46
    go_wp2_with fail
    refine (areMethods_any _ a _ HV.out).mono ?_
    rintro e w' ⟨rfl, rfl⟩
    go_wp2_with (at_builtin; refine wp_ints rfl (.tmp 9) (.tmp 10) rfl rfl rfl (Own.lit w [5, (a.length : Int)] w.heap.size (Nat.le_refl _) (by simp)) (HV.out.alloc _) (by simp; omega) (by simp) ?_; intro v2 w2 o2 b2 g2 k2)
    go_ret2
    exact ⟨_, rfl, by rw [HS.out]; exact o2, ((Below.refl _ _).alloc (Nat.le_refl _) _).trans b2⟩

set_option maxHeartbeats 400000 in
theorem spec_HelloBytes_any (v : Value) (a : List Int) (w : World) (hv : Ints w 0 v a) :
    Calls Try.prog 57 #[v] w fun e w' => Gave w (helloL a) (methodsOk a) e w' := by
  have HV := Lib.hid hv
  obtain ⟨A, c, rfl, hc, hm, _⟩ := hv.open_
  clear hv
  cases h1 : methodsOk a
  · have HS : Hid (helloL a = []) := Lib.hid (helloL_not h1)
    go_enter Try.func57, Try.ntmps57
    go_wp2_with fail
    refine (l5Ok_any _ a _ HV.out).mono ?_
    rintro e w' ⟨rfl, n1, rfl⟩
    go_wp2_with fail
    go_ret2
    exact ⟨_, rfl, by rw [HS.out]; exact Own.lit (w.drewN n1) [] _ (Nat.le_refl _) (by simp), (below_drewN (Below.refl _ _) n1).alloc (Nat.le_refl _) _⟩
  · have HS : Hid (helloL a = [5, (a.length : Int)] ++ a) := Lib.hid (helloL_ok h1)
    have hl := methodsOk_len h1
    go_enter Try.func57, Try.ntmps57
    go_wp2_with fail
    refine (l5Ok_any _ a _ HV.out).mono ?_
    rintro e w' ⟨rfl, n1, rfl⟩
    go_wp2_with (at_builtin; refine wp_ints rfl (.tmp 10) (.tmp 11) rfl rfl rfl (Own.lit (w.drewN n1) [5, (a.length : Int)] w.heap.size (Nat.le_refl _) (by simp)) ((HV.out.drewN n1).alloc _) (by simp; omega) (by simp [World.drewN]) ?_; intro v2 w2 o2 b2 g2 k2)
    go_ret2
    exact ⟨_, rfl, by rw [HS.out]; exact o2, ((below_drewN (Below.refl _ _) n1).alloc (Nat.le_refl _) _).trans b2⟩
end Go.Proofs.Yticlgmdmkomdbaa

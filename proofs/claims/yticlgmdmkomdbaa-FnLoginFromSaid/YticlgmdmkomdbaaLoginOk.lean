/-
  Whether two strings are a login: the program's isLogin and the reference's l11Ok return the same plain function. Conditions: the strings are strings of the model.
-/
import Derived.Test.YticlgmdmkomdbaaUser
namespace Go.Proofs.Yticlgmdmkomdbaa
open Go.RowKit

theorem empty_of {u : ByteArray} (h : ¬ 0 < u.size) : u = ByteArray.empty := by
  apply numsOf_inj
  rw [numsOf_nil (by omega)]
  rfl
theorem notEmpty_of {u : ByteArray} (h : 0 < u.size) : u.toList.isEmpty = false ∧ ¬ u.toList = [] := by
  have h2 : ¬ u.toList = [] := by
    rw [ByteArray.toList_eq]
    intro e
    have : u.data.toList.length = 0 := by rw [e]; rfl
    have h3 : u.data.toList.length = u.size := by simp
    omega
  exact ⟨by simpa using h2, h2⟩

set_option maxHeartbeats 1000000 in
theorem isLogin_any (u v : ByteArray) (w : World) (hu : u.size ≤ maxLen) (hv : v.size ≤ maxLen) :
    Calls Try.prog 66 #[.agg #[.string u, .string v]] w fun e w' => e = .returned (.bool (loginOk u v)) ∧ Below w.heap.size w w' := by
  have HU := Lib.hid hu
  have HV := Lib.hid hv
  clear hu hv
  have HB : Hid (Below w.heap.size w (w.alloc (.cells #[.string u, .string v] 31))) := Lib.hid ((Below.refl _ _).alloc (Nat.le_refl _) _)
  by_cases h1 : 0 < u.size
  case neg =>
    have E : Hid (loginOk u v = false) := Lib.hid (by rw [loginOk, decide_eq_false h1]; rfl)
    obtain rfl := empty_of h1
    go_enter Try.func66, Try.ntmps66
    go_wp2_with fail
    go_ret
    exact ⟨ret_bool E.out.symm, HB.out⟩
  obtain ⟨u1, u2⟩ := notEmpty_of h1
  by_cases h2 : 0 < v.size
  case neg =>
    have E : Hid (loginOk u v = false) := Lib.hid (by rw [loginOk, decide_eq_false h2]; simp)
    obtain rfl := empty_of h2
    go_enter Try.func66, Try.ntmps66
    go_wp2_with fail
    go_ret
    exact ⟨ret_bool E.out.symm, HB.out⟩
  obtain ⟨v1, v2⟩ := notEmpty_of h2
  have E : Hid (loginOk u v = (userOk u && userOk v)) := Lib.hid (by rw [loginOk, decide_eq_true h1, decide_eq_true h2]; simp)
  cases h3 : userOk u
  · go_enter Try.func66, Try.ntmps66
    go_wp2_with (go_at_call 88; refine (impl_UserValid_any u _ HU.out).mono ?_; rintro e w' ⟨rfl, rfl⟩)
    go_ret
    exact ⟨ret_bool (by rw [E.out, h3]; rfl), HB.out⟩
  · go_enter Try.func66, Try.ntmps66
    go_wp2_with (first | (go_at_call_of 88 (Value.string v); refine (impl_UserValid_any v _ HV.out).mono ?_; rintro e w' ⟨rfl, rfl⟩) | (go_at_call 88; refine (impl_UserValid_any u _ HU.out).mono ?_; rintro e w' ⟨rfl, rfl⟩))
    go_ret
    exact ⟨ret_bool (by rw [E.out, h3]; rfl), HB.out⟩

set_option maxHeartbeats 1000000 in
theorem l11Ok_any (u v : ByteArray) (w : World) (hu : u.size ≤ maxLen) (hv : v.size ≤ maxLen) :
    Calls Try.prog 68 #[.agg #[.string u, .string v]] w fun e w' => e = .returned (.bool (loginOk u v)) ∧ Below w.heap.size w w' := by
  have HU := Lib.hid hu
  have HV := Lib.hid hv
  clear hu hv
  have HB : Hid (Below w.heap.size w (w.alloc (.cells #[.string u, .string v] 31))) := Lib.hid ((Below.refl _ _).alloc (Nat.le_refl _) _)
  cases h3 : userOk u
  · have E : Hid (loginOk u v = false) := Lib.hid (by rw [loginOk, h3]; simp)
    go_enter Try.func68, Try.ntmps68
    go_wp2_with (go_at_call 90; refine (spec_UserValid_any u _ HU.out).mono ?_; rintro e w' ⟨rfl, rfl⟩)
    go_ret
    exact ⟨ret_bool E.out.symm, HB.out⟩
  · cases h4 : userOk v
    · have E : Hid (loginOk u v = false) := Lib.hid (by rw [loginOk, h4]; simp)
      go_enter Try.func68, Try.ntmps68
      go_wp2_with (first | (go_at_call_of 90 (Value.string v); refine (spec_UserValid_any v _ HV.out).mono ?_; rintro e w' ⟨rfl, rfl⟩) | (go_at_call 90; refine (spec_UserValid_any u _ HU.out).mono ?_; rintro e w' ⟨rfl, rfl⟩))
      go_ret
      exact ⟨ret_bool E.out.symm, HB.out⟩
    · have E : Hid (loginOk u v = (decide (0 < u.size) && decide (0 < v.size))) := Lib.hid (by rw [loginOk, h3, h4]; simp)
      by_cases h1 : 0 < u.size
      · have h1' : (0 : Int) < (u.size : Int) := by omega
        by_cases h2 : 0 < v.size
        · have h2' : (0 : Int) < (v.size : Int) := by omega
          have E2 : Hid (loginOk u v = decide (0 < v.size)) := Lib.hid (by rw [E.out, decide_eq_true h1]; rfl)
          clear h1 h2
          go_enter Try.func68, Try.ntmps68
          go_wp2_with (first | (go_at_call_of 90 (Value.string v); refine (spec_UserValid_any v _ HV.out).mono ?_; rintro e w' ⟨rfl, rfl⟩) | (go_at_call 90; refine (spec_UserValid_any u _ HU.out).mono ?_; rintro e w' ⟨rfl, rfl⟩))
          go_ret
          exact ⟨ret_bool E2.out.symm, HB.out⟩
        · have E2 : Hid (loginOk u v = false) := Lib.hid (by rw [E.out, decide_eq_false h2, Bool.and_false])
          obtain rfl := empty_of h2
          clear h1
          go_enter Try.func68, Try.ntmps68
          go_wp2_with (first | (go_at_call_of 90 (Value.string ByteArray.empty); refine (spec_UserValid_any ByteArray.empty _ HV.out).mono ?_; rintro e w' ⟨rfl, rfl⟩) | (go_at_call 90; refine (spec_UserValid_any u _ HU.out).mono ?_; rintro e w' ⟨rfl, rfl⟩))
          go_ret
          exact ⟨ret_bool E2.out.symm, HB.out⟩
      · have E2 : Hid (loginOk u v = false) := Lib.hid (by rw [E.out, decide_eq_false h1]; rfl)
        obtain rfl := empty_of h1
        go_enter Try.func68, Try.ntmps68
        go_wp2_with (first | (go_at_call_of 90 (Value.string v); refine (spec_UserValid_any v _ HV.out).mono ?_; rintro e w' ⟨rfl, rfl⟩) | (go_at_call 90; refine (spec_UserValid_any ByteArray.empty _ HU.out).mono ?_; rintro e w' ⟨rfl, rfl⟩))
        go_ret
        exact ⟨ret_bool E2.out.symm, HB.out⟩
end Go.Proofs.Yticlgmdmkomdbaa

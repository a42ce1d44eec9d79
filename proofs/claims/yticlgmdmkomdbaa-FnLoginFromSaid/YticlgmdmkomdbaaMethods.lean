/-
  The library's slices.Index and slices.Contains at integers; whether a list is one of methods (the program's areMethods and the reference's l5Ok return the same plain function). Conditions: each slice reads as a list of integers.
-/
import Derived.Test.YticlgmdmkomdbaaInts
import Derived.Outline
namespace Go.Proofs.Yticlgmdmkomdbaa
open Go.RowKit

def IdxOk (zs : List Int) (x i : Int) : Prop := decide (0 ≤ i) = hasI zs x

set_option maxHeartbeats 400000 in
theorem Index_any (v : Value) (zs : List Int) (x : Int) (w : World) (hv : Ints w 0 v zs) :
    Calls Try.prog 91 #[v, .int .i64 x] w fun e w' => ∃ i, e = .returned (.int .i64 i) ∧ IdxOk zs x i ∧ w = w' := by
  obtain ⟨A, c, rfl, hc, hm, hA⟩ := hv.open_
  obtain ⟨n, hx⟩ : ∃ n, zs.length = n := ⟨_, rfl⟩
  rw [hx] at hc ⊢
  clear hv
  have HX := Lib.hid hx
  clear hx
  go_enter Try.func91, Try.ntmps91
  go_wp2
  go_loop [8] (fun i => ∃ k : Nat, k ≤ n ∧ i = .int .i64 k ∧ Hid (hasI (zs.take k) x = false)) (fun i => n - (intOf i).toNat)
  case atStart => exact ⟨0, Nat.zero_le _, rfl, Lib.hid (by simp [hasI])⟩
  case round =>
    obtain ⟨k, hk, rfl, HT⟩ := hrel
    by_cases hlt : k < n
    · obtain ⟨b, o, rfl, _, hb, hs⟩ := hA.resolve_left (fun h => by have := HX.out; rw [h] at this; simp at this; omega)
      have c1 := hs.int_at (j := k) (by have := HX.out; omega)
      obtain ⟨y, hy⟩ : ∃ y, zs.getD k 0 = y := ⟨_, rfl⟩
      rw [hy] at c1
      have hi : (k : Int) < (n : Int) := by omega
      clear hs hA
      by_cases he : x = y
      · have HS : Hid (hasI zs x = true) := Lib.hid (hasI_here (by have := HX.out; omega) (hy.trans he.symm))
        subst he
        clear hy HT
        go_wp2
        go_ret
        exact ⟨_, rfl, by unfold IdxOk; rw [HS.out]; simp, rfl⟩
      · have HS : Hid (hasI (zs.take (k + 1)) x = false) := Lib.hid (hasI_take (by have := HX.out; omega) HT.out hy (fun h => he h.symm))
        have hne : (x == y) = false := by simpa using he
        clear hy HT he
        go_wp2
        go_round
        case rel => exact ⟨k + 1, by omega, by go_num, HS⟩
        case measure => simp [intOf]; omega
    · have HS : Hid (hasI zs x = false) := Lib.hid (by
        have h3 := HT.out
        rw [List.take_of_length_le (by have := HX.out; omega)] at h3
        exact h3)
      clear HT
      go_wp2
      go_ret
      exact ⟨_, rfl, by unfold IdxOk; rw [HS.out]; simp, rfl⟩

theorem Contains_any (v : Value) (zs : List Int) (x : Int) (w : World) (hv : Ints w 0 v zs) :
    Calls Try.prog 71 #[v, .int .i64 x] w fun e w' => e = .returned (.bool (hasI zs x)) ∧ w = w' := by
  go_enter Try.func71, Try.ntmps71
  go_wp2_with fail
  refine (Index_any _ zs x _ hv).mono ?_
  rintro e w' ⟨i, rfl, hi, rfl⟩
  have HI := Lib.hid hi
  clear hi
  go_wp2_with fail
  go_ret
  exact ⟨ret_bool HI.out, rfl⟩

/-- The j-th of them is a method, and is none of those ahead of it. -/
def mOk (zs : List Int) (j : Nat) : Bool := inR (zs.getD j 0) 0 254 && !hasI (zs.take j) (zs.getD j 0)
def mTo (zs : List Int) (k : Nat) : Bool := (List.range k).all (mOk zs)
def methodsOk (zs : List Int) : Bool := mTo zs zs.length && inR zs.length 1 8
theorem mTo_succ {zs : List Int} {k : Nat} {y : Int} (h : mTo zs k = true) (hy : zs.getD k 0 = y) (h1 : inR y 0 254 = true) (h2 : hasI (zs.take k) y = false) : mTo zs (k + 1) = true := by
  unfold mTo at *
  rw [List.range_succ, List.all_append, h]
  simp only [List.all_cons, List.all_nil, mOk, hy, h1, h2]
  rfl
theorem methodsOk_not {zs : List Int} {k : Nat} {y : Int} (hk : k < zs.length) (hy : zs.getD k 0 = y) (h : inR y 0 254 = false ∨ hasI (zs.take k) y = true) : methodsOk zs = false := by
  have hm : mOk zs k = false := by
    unfold mOk
    rw [hy]
    rcases h with h | h <;> simp [h]
  have ht : mTo zs zs.length = false := by
    unfold mTo
    rw [List.all_eq_false]
    exact ⟨k, List.mem_range.2 hk, by rw [hm]; simp⟩
  unfold methodsOk
  rw [ht]
  rfl
theorem methodsOk_of {zs : List Int} {n : Nat} (hn : zs.length = n) (h : mTo zs n = true) : methodsOk zs = inR n 1 8 := by
  unfold methodsOk
  rw [hn, h]
  rfl

set_option maxHeartbeats 1000000 in
theorem areMethods_any (v : Value) (zs : List Int) (w : World) (hv : Ints w 0 v zs) :
    Calls Try.prog 70 #[v] w fun e w' => e = .returned (.bool (methodsOk zs)) ∧ w = w' := by
  obtain ⟨A, c, rfl, hc, hm, hA⟩ := hv.open_
  obtain ⟨n, hx⟩ : ∃ n, zs.length = n := ⟨_, rfl⟩
  rw [hx] at hc ⊢
  clear hv
  have HX := Lib.hid hx
  clear hx
  go_enter Try.func70, Try.ntmps70
  go_wp2
  go_loop [7] (fun i => ∃ k : Nat, k ≤ n ∧ i = .int .i64 k ∧ Hid (mTo zs k = true)) (fun i => n - (intOf i).toNat)
  case atStart => exact ⟨0, Nat.zero_le _, rfl, Lib.hid (by simp [mTo])⟩
  case round =>
    obtain ⟨k, hk, rfl, HT⟩ := hrel
    by_cases hlt : k < n
    · obtain ⟨b, o, rfl, _, hb, hs⟩ := hA.resolve_left (fun h => by have := HX.out; rw [h] at this; simp at this; omega)
      have c1 := hs.int_at (j := k) (by have := HX.out; omega)
      have hf := Ints.front (m := k) (c := c) hs (by have := HX.out; omega) (by omega) hm
      obtain ⟨y, hy⟩ : ∃ y, zs.getD k 0 = y := ⟨_, rfl⟩
      rw [hy] at c1
      have HF := Lib.hid hf
      have hi : (k : Int) < (n : Int) := by omega
      have hi2 : (k : Int) ≤ (c : Int) := by omega
      clear hs hA hf
      cases h1 : inR y 0 254
      · have HS : Hid (methodsOk zs = false) := Lib.hid (methodsOk_not (by have := HX.out; omega) hy (.inl h1))
        clear hy HT
        go_wp2_with (go_at_call 74; refine (within_any _ _ _ _).mono ?_; rintro e w' ⟨rfl, rfl⟩)
        go_ret
        exact ⟨ret_bool HS.out.symm, rfl⟩
      · cases h2 : hasI (zs.take k) y
        · have HS : Hid (mTo zs (k + 1) = true) := Lib.hid (mTo_succ HT.out hy h1 h2)
          clear hy HT
          go_wp2_with (first | (go_at_call 74; refine (within_any _ _ _ _).mono ?_; rintro e w' ⟨rfl, rfl⟩) | (go_at_call 71; refine (Contains_any _ _ _ _ HF.out).mono ?_; rintro e w' ⟨rfl, rfl⟩))
          go_round
          case rel => exact ⟨k + 1, by omega, by go_num, HS⟩
          case measure => simp [intOf]; omega
        · have HS : Hid (methodsOk zs = false) := Lib.hid (methodsOk_not (by have := HX.out; omega) hy (.inr h2))
          clear hy HT
          go_wp2_with (first | (go_at_call 74; refine (within_any _ _ _ _).mono ?_; rintro e w' ⟨rfl, rfl⟩) | (go_at_call 71; refine (Contains_any _ _ _ _ HF.out).mono ?_; rintro e w' ⟨rfl, rfl⟩))
          go_ret
          exact ⟨ret_bool HS.out.symm, rfl⟩
    · have hkn : k = n := by omega
      subst hkn
      have HS : Hid (methodsOk zs = inR k 1 8) := Lib.hid (methodsOk_of HX.out HT.out)
      clear HT
      go_wp2_with (go_at_call 74; refine (within_any _ _ _ _).mono ?_; rintro e w' ⟨rfl, rfl⟩)
      go_ret
      exact ⟨ret_bool HS.out.symm, rfl⟩

set_option maxHeartbeats 1000000 in
theorem l5Ok_any (v : Value) (zs : List Int) (w : World) (hv : Ints w 0 v zs) :
    Calls Try.prog 72 #[v] w fun e w' => e = .returned (.bool (methodsOk zs)) ∧ ∃ n, w' = w.drewN n := by
  obtain ⟨A, c, rfl, hc, hm, hA⟩ := hv.open_
  obtain ⟨n, hx⟩ : ∃ n, zs.length = n := ⟨_, rfl⟩
  rw [hx] at hc ⊢
  clear hv
  have HX := Lib.hid hx
  clear hx
  go_enter Try.func72, Try.ntmps72
  go_wp2
  go_loopw [3] (fun i wr => ∃ k m : Nat, k ≤ n ∧ i = .int .i64 k ∧ Hid (mTo zs k = true) ∧ wr = w.drewN m) (fun i _ => n - (intOf i).toNat)
  case atStart => exact ⟨0, 0, Nat.zero_le _, rfl, Lib.hid (by simp [mTo]), rfl⟩
  case round =>
    obtain ⟨k, m, hk, rfl, HT, rfl⟩ := hrel
    by_cases hlt : k < n
    · obtain ⟨b, o, rfl, _, hb, hs⟩ := hA.resolve_left (fun h => by have := HX.out; rw [h] at this; simp at this; omega)
      have c1 := hs.int_at (j := k) (by have := HX.out; omega)
      have hf := Ints.front (m := k) (c := c) hs (by have := HX.out; omega) (by omega) hm
      obtain ⟨y, hy⟩ : ∃ y, zs.getD k 0 = y := ⟨_, rfl⟩
      rw [hy] at c1
      have HF := Lib.hid hf
      have hi : (k : Int) < (n : Int) := by omega
      have hi0 : (0 : Int) ≤ (k : Int) := by omega
      have hi2 : (k : Int) ≤ (c : Int) := by omega
      have hi3 : k ≤ c := by omega
      clear hs hA hf
      cases h1 : inR y 0 254
      · have HS : Hid (methodsOk zs = false) := Lib.hid (methodsOk_not (by have := HX.out; omega) hy (.inl h1))
        clear hy HT
        go_wp2
        go_quiet ((go_at_call 75; exact quiet_add_left (l6In_any _ _ _ _)))
        go_wp2
        go_ret
        exact ⟨ret_bool HS.out.symm, by first | exact ⟨_, rfl⟩ | exact ⟨_, World.drewN_drewN _ _ _⟩⟩
      · cases h2 : hasI (zs.take k) y
        · have HS : Hid (mTo zs (k + 1) = true) := Lib.hid (mTo_succ HT.out hy h1 h2)
          clear hy HT
          go_wp2
          go_quiet ((first | (go_at_call 75; exact quiet_add_left (l6In_any _ _ _ _)) | (go_at_call 73; exact quiet_add_left (l5Has_any _ _ _ _ HF.out))))
          go_wp2
          go_roundw
          case rel => exact ⟨k + 1, _, by omega, by go_num, HS, rfl⟩
          case measure => simp [intOf]; omega
        · have HS : Hid (methodsOk zs = false) := Lib.hid (methodsOk_not (by have := HX.out; omega) hy (.inr h2))
          clear hy HT
          go_wp2
          go_quiet ((first | (go_at_call 75; exact quiet_add_left (l6In_any _ _ _ _)) | (go_at_call 73; exact quiet_add_left (l5Has_any _ _ _ _ HF.out))))
          go_wp2
          go_ret
          exact ⟨ret_bool HS.out.symm, by first | exact ⟨_, rfl⟩ | exact ⟨_, World.drewN_drewN _ _ _⟩⟩
    · have hkn : k = n := by omega
      subst hkn
      have HS : Hid (methodsOk zs = inR k 1 8) := Lib.hid (methodsOk_of HX.out HT.out)
      clear HT
      go_wp2_with (go_at_call 75; refine (l6In_any _ _ _ _).mono ?_; rintro e w' ⟨rfl, rfl⟩)
      go_ret
      exact ⟨ret_bool HS.out.symm, _, rfl⟩
end Go.Proofs.Yticlgmdmkomdbaa

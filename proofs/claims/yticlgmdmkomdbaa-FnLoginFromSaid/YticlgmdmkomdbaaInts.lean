/-
  Loops over a slice of integers that only read it: whether it has a number, whether all its numbers are bytes, whether it is a list of methods, which method is picked; the program's functions and the reference's return the same plain function of the list. Conditions: each slice reads as a list of integers.
-/
import Derived.Test.YticlgmdmkomdbaaSame
namespace Go.Proofs.Yticlgmdmkomdbaa
open Go.RowKit

/-- low ≤ x ≤ high -/
def inR (x lo hi : Int) : Bool := decide (lo ≤ x) && decide (x ≤ hi)

theorem within_any (x lo hi : Int) (w : World) : Calls Try.prog 74 #[.int .i64 x, .int .i64 lo, .int .i64 hi] w fun e w' => e = .returned (.bool (inR x lo hi)) ∧ w = w' := by
  by_cases h1 : lo ≤ x
  · by_cases h2 : x ≤ hi
    · go_enter Try.func74, Try.ntmps74
      go_wp2
      go_ret
      exact ⟨ret_bool (by simp [inR, h1, h2]), rfl⟩
    · go_enter Try.func74, Try.ntmps74
      go_wp2
      go_ret
      exact ⟨ret_bool (by simp [inR, h1, h2]), rfl⟩
  · go_enter Try.func74, Try.ntmps74
    go_wp2
    go_ret
    exact ⟨ret_bool (by simp [inR]; omega), rfl⟩

theorem l6In_any (x lo hi : Int) (w : World) : Calls Try.prog 75 #[.int .i64 x, .int .i64 lo, .int .i64 hi] w fun e w' => e = .returned (.bool (inR x lo hi)) ∧ w = w' := by
  by_cases h1 : lo ≤ x
  · by_cases h2 : x ≤ hi
    · go_enter Try.func75, Try.ntmps75
      go_wp2
      go_ret
      exact ⟨ret_bool (by simp [inR, h1, h2]), rfl⟩
    · go_enter Try.func75, Try.ntmps75
      go_wp2
      go_ret
      exact ⟨ret_bool (by simp [inR, h1, h2]), rfl⟩
  · go_enter Try.func75, Try.ntmps75
    go_wp2
    go_ret
    exact ⟨ret_bool (by simp [inR]; omega), rfl⟩

/-- x is on the list. -/
def hasI (zs : List Int) (x : Int) : Bool := decide (x ∈ zs)
theorem hasI_take {zs : List Int} {k : Nat} {x y : Int} (hk : k < zs.length) (h : hasI (zs.take k) x = false) (hy : zs.getD k 0 = y) (hne : y ≠ x) : hasI (zs.take (k + 1)) x = false := by
  unfold hasI at *
  rw [List.take_succ_eq_append_getElem hk]
  simp [List.getD, hk] at hy
  rw [decide_eq_false_iff_not] at h ⊢
  rw [List.mem_append, List.mem_singleton, hy]
  rintro (h2 | h2)
  · exact h h2
  · exact hne h2.symm
theorem hasI_here {zs : List Int} {k : Nat} {x : Int} (hk : k < zs.length) (hy : zs.getD k 0 = x) : hasI zs x = true := by
  unfold hasI
  simp [List.getD, hk] at hy
  simp [← hy]

theorem hasI_next {m : List Int} {k : Nat} {x y : Int} (hk : k < m.length) (hx : m.getD k 0 = x) (h : hasI (m.take k) y = false) : hasI (m.take (k + 1)) y = (x == y) := by
  by_cases e : x = y
  · subst e
    have : hasI (m.take (k + 1)) x = true := hasI_here (k := k) (by simp; omega) (by simp only [List.getD, List.getElem?_take]; rw [if_pos (by omega)]; exact hx)
    rw [this]; simp
  · rw [hasI_take hk h hx e]; simp [e]
theorem hasI_stays {m : List Int} {k : Nat} {y : Int} (h : hasI (m.take k) y = true) : hasI (m.take (k + 1)) y = true := by
  unfold hasI at *
  simp only [decide_eq_true_eq] at *
  have e : (m.take (k + 1)).take k = m.take k := by rw [List.take_take, Nat.min_eq_left (by omega)]
  rw [← e] at h
  exact List.mem_of_mem_take h

set_option maxHeartbeats 400000 in
theorem l5Has_any (v : Value) (zs : List Int) (x : Int) (w : World) (hv : Ints w 0 v zs) :
    Calls Try.prog 73 #[v, .int .i64 x] w fun e w' => e = .returned (.bool (hasI zs x)) ∧ w = w' := by
  obtain ⟨A, c, rfl, hc, hm, hA⟩ := hv.open_
  obtain ⟨n, hx⟩ : ∃ n, zs.length = n := ⟨_, rfl⟩
  rw [hx] at hc ⊢
  clear hv
  have HX := Lib.hid hx
  clear hx
  go_enter Try.func73, Try.ntmps73
  go_wp2
  go_loop [5] (fun i => ∃ k : Nat, k ≤ n ∧ i = .int .i64 k ∧ Hid (hasI (zs.take k) x = false)) (fun i => n - (intOf i).toNat)
  case atStart => exact ⟨0, Nat.zero_le _, rfl, Lib.hid (by simp [hasI])⟩
  case round =>
    obtain ⟨k, hk, rfl, HT⟩ := hrel
    by_cases hlt : k < n
    · obtain ⟨b, o, rfl, _, hb, hs⟩ := hA.resolve_left (fun h => by have := HX.out; rw [h] at this; simp at this; omega)
      have c1 := hs.int_at (j := k) (by have := HX.out; omega)
      obtain ⟨y, hy⟩ : ∃ y, zs.getD k 0 = y := ⟨_, rfl⟩
      rw [hy] at c1
      have hi : (k : Int) < (n : Int) := by omega
      clear hs hA
      by_cases he : y = x
      · have HS : Hid (hasI zs x = true) := Lib.hid (hasI_here (by have := HX.out; omega) (hy.trans he))
        subst he
        clear hy HT
        go_wp2
        go_ret
        exact ⟨ret_bool HS.out.symm, rfl⟩
      · have HS : Hid (hasI (zs.take (k + 1)) x = false) := Lib.hid (hasI_take (by have := HX.out; omega) HT.out hy he)
        have hne : (y == x) = false := by simpa using he
        clear hy HT he
        go_wp2
        go_round
        case rel => exact ⟨k + 1, by omega, by go_num, HS⟩
        case measure => simp [intOf]; omega
    · have HS : Hid (hasI zs x = false) := Lib.hid (by
        have h3 := HT.out
        rw [List.take_of_length_le (by have := HX.out; omega)] at h3
        exact h3)
      clear HT
      go_wp2
      go_ret
      exact ⟨ret_bool HS.out.symm, rfl⟩
end Go.Proofs.Yticlgmdmkomdbaa

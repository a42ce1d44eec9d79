/-
  The three comparisons of two slices of integers (the laws' own eqIntS and sameBytes, the library's slices.Equal) return whether the lists are equal, and write nothing. Conditions: both slices read as lists of integers.
-/
import Derived.Test.YtolbkdcnmkmncaaDoorBase
import Derived.Test.YtolbkdcnmkmncaaDoorProg
import Derived.Deep.QuietTactic
import Derived.BigQuiet
namespace Go.Proofs.YtolbkdcnmkmncaaDoor
open Go.RowKit

theorem take_snoc_eq {xs ys : List Int} {k : Nat} (hx : k < xs.length) (hy : k < ys.length) (h : xs.take k = ys.take k) (he : xs.getD k 0 = ys.getD k 0) : xs.take (k + 1) = ys.take (k + 1) := by
  rw [List.take_succ_eq_append_getElem hx, List.take_succ_eq_append_getElem hy, h]
  simp [List.getD, hx, hy] at he
  rw [he]
theorem ne_of_getD {xs ys : List Int} {k : Nat} (he : ¬ xs.getD k 0 = ys.getD k 0) : xs ≠ ys := fun h => he (by rw [h])

set_option maxHeartbeats 400000 in
theorem eqIntS_any (v u : Value) (xs ys : List Int) (w : World) (hv : Ints w 0 v xs) (hu : Ints w 0 u ys) :
    Calls Tryd.prog 33 #[v, u] w fun e w' => e = .returned (.bool (decide (xs = ys))) ∧ ∃ n, w' = w.drewN n := by
  obtain ⟨A, c, rfl, hc, hm, hA⟩ := hv.open_
  obtain ⟨B, d, rfl, hd, hn, hB⟩ := hu.open_
  by_cases hl : xs.length = ys.length
  · obtain ⟨n, hx, hy⟩ : ∃ n, xs.length = n ∧ ys.length = n := ⟨_, rfl, hl.symm⟩
    rw [hx, hy]
    rw [hx] at hc
    clear hl hv hu
    have HX := Lib.hid hx
    have HY := Lib.hid hy
    clear hx hy
    go_enter Tryd.func33, Tryd.ntmps33
    go_wp2
    go_loopw [5] (fun i wr => ∃ k m : Nat, k ≤ n ∧ i = .int .i64 k ∧ Hid (xs.take k = ys.take k) ∧ wr = w.drewN m) (fun i _ => n - (intOf i).toNat)
    case atStart => exact ⟨0, 0, Nat.zero_le _, rfl, Lib.hid rfl, rfl⟩
    case round =>
      obtain ⟨k, m, hk, rfl, HT, rfl⟩ := hrel
      by_cases hlt : k < n
      · obtain ⟨b, o, rfl, _, hb, hs⟩ := hA.resolve_left (fun h => by have := HX.out; rw [h] at this; simp at this; omega)
        obtain ⟨b', o', rfl, _, hb', hs'⟩ := hB.resolve_left (fun h => by have := HY.out; rw [h] at this; simp at this; omega)
        have c1 := hs.int_at (j := k) (by have := HX.out; omega)
        have c2 := hs'.int_at (j := k) (by have := HY.out; omega)
        obtain ⟨x, hx⟩ : ∃ x, xs.getD k 0 = x := ⟨_, rfl⟩
        obtain ⟨y, hy⟩ : ∃ y, ys.getD k 0 = y := ⟨_, rfl⟩
        rw [hx] at c1
        rw [hy] at c2
        have hi : (k : Int) < (n : Int) := by omega
        have hi0 : (0 : Int) ≤ (k : Int) := by omega
        clear hs hs' hA hB
        by_cases he : x = y
        · have HS : Hid (xs.take (k + 1) = ys.take (k + 1)) := Lib.hid (take_snoc_eq (by have := HX.out; omega) (by have := HY.out; omega) HT.out (by rw [hx, hy, he]))
          subst he
          clear hx hy HT
          go_wp2
          go_quiet (fail)
          go_wp2
          go_roundw
          case rel => exact ⟨k + 1, _, by omega, by go_num, HS, rfl⟩
          case measure => simp [intOf]; omega
        · have HS : Hid (xs ≠ ys) := Lib.hid (ne_of_getD (by rw [hx, hy]; exact he))
          have hne : (x != y) = true := by simpa using he
          clear hx hy HT he
          go_wp2
          go_quiet (fail)
          go_wp2
          go_ret
          exact ⟨ret_bool (by simp [HS.out]), by first | exact ⟨_, rfl⟩ | exact ⟨_, World.drewN_drewN _ _ _⟩⟩
      · have HS : Hid (xs = ys) := Lib.hid (by
          have h1 := HX.out
          have h2 := HY.out
          have h3 := HT.out
          rw [List.take_of_length_le (by omega), List.take_of_length_le (by omega)] at h3
          exact h3)
        clear HT
        go_wp2
        go_ret
        exact ⟨ret_bool (by simp [HS.out]), by first | exact ⟨_, rfl⟩ | exact ⟨_, World.drewN_drewN _ _ _⟩⟩
  · have hne : ((xs.length : Int) != (ys.length : Int)) = true := by simp; omega
    have HS : Hid (xs ≠ ys) := Lib.hid (fun h => hl (by rw [h]))
    clear hl
    go_enter Tryd.func33, Tryd.ntmps33
    go_wp2
    go_ret
    exact ⟨ret_bool (by simp [HS.out]), 0, rfl⟩

set_option maxHeartbeats 400000 in
theorem sameBytes_any (v u : Value) (xs ys : List Int) (w : World) (hv : Ints w 0 v xs) (hu : Ints w 0 u ys) :
    Calls Tryd.prog 29 #[v, u] w fun e w' => e = .returned (.bool (decide (xs = ys))) ∧ ∃ n, w' = w.drewN n := by
  obtain ⟨A, c, rfl, hc, hm, hA⟩ := hv.open_
  obtain ⟨B, d, rfl, hd, hn, hB⟩ := hu.open_
  by_cases hl : xs.length = ys.length
  · obtain ⟨n, hx, hy⟩ : ∃ n, xs.length = n ∧ ys.length = n := ⟨_, rfl, hl.symm⟩
    rw [hx, hy]
    rw [hx] at hc
    clear hl hv hu
    have HX := Lib.hid hx
    have HY := Lib.hid hy
    clear hx hy
    go_enter Tryd.func29, Tryd.ntmps29
    go_wp2
    go_loopw [5] (fun i wr => ∃ k m : Nat, k ≤ n ∧ i = .int .i64 k ∧ Hid (xs.take k = ys.take k) ∧ wr = w.drewN m) (fun i _ => n - (intOf i).toNat)
    case atStart => exact ⟨0, 0, Nat.zero_le _, rfl, Lib.hid rfl, rfl⟩
    case round =>
      obtain ⟨k, m, hk, rfl, HT, rfl⟩ := hrel
      by_cases hlt : k < n
      · obtain ⟨b, o, rfl, _, hb, hs⟩ := hA.resolve_left (fun h => by have := HX.out; rw [h] at this; simp at this; omega)
        obtain ⟨b', o', rfl, _, hb', hs'⟩ := hB.resolve_left (fun h => by have := HY.out; rw [h] at this; simp at this; omega)
        have c1 := hs.int_at (j := k) (by have := HX.out; omega)
        have c2 := hs'.int_at (j := k) (by have := HY.out; omega)
        obtain ⟨x, hx⟩ : ∃ x, xs.getD k 0 = x := ⟨_, rfl⟩
        obtain ⟨y, hy⟩ : ∃ y, ys.getD k 0 = y := ⟨_, rfl⟩
        rw [hx] at c1
        rw [hy] at c2
        have hi : (k : Int) < (n : Int) := by omega
        have hi0 : (0 : Int) ≤ (k : Int) := by omega
        clear hs hs' hA hB
        by_cases he : x = y
        · have HS : Hid (xs.take (k + 1) = ys.take (k + 1)) := Lib.hid (take_snoc_eq (by have := HX.out; omega) (by have := HY.out; omega) HT.out (by rw [hx, hy, he]))
          subst he
          clear hx hy HT
          go_wp2
          go_quiet (fail)
          go_wp2
          go_roundw
          case rel => exact ⟨k + 1, _, by omega, by go_num, HS, rfl⟩
          case measure => simp [intOf]; omega
        · have HS : Hid (xs ≠ ys) := Lib.hid (ne_of_getD (by rw [hx, hy]; exact he))
          have hne : (x != y) = true := by simpa using he
          clear hx hy HT he
          go_wp2
          go_quiet (fail)
          go_wp2
          go_ret
          exact ⟨ret_bool (by simp [HS.out]), by first | exact ⟨_, rfl⟩ | exact ⟨_, World.drewN_drewN _ _ _⟩⟩
      · have HS : Hid (xs = ys) := Lib.hid (by
          have h1 := HX.out
          have h2 := HY.out
          have h3 := HT.out
          rw [List.take_of_length_le (by omega), List.take_of_length_le (by omega)] at h3
          exact h3)
        clear HT
        go_wp2
        go_ret
        exact ⟨ret_bool (by simp [HS.out]), by first | exact ⟨_, rfl⟩ | exact ⟨_, World.drewN_drewN _ _ _⟩⟩
  · have hne : ((xs.length : Int) != (ys.length : Int)) = true := by simp; omega
    have HS : Hid (xs ≠ ys) := Lib.hid (fun h => hl (by rw [h]))
    clear hl
    go_enter Tryd.func29, Tryd.ntmps29
    go_wp2
    go_ret
    exact ⟨ret_bool (by simp [HS.out]), 0, rfl⟩
end Go.Proofs.YtolbkdcnmkmncaaDoor

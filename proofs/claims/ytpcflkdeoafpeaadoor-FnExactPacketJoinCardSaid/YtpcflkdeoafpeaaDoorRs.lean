/-
  The three comparisons of two slices of integers (the laws' own eqIntS and sameBytes, the library's slices.Equal) return whether the lists are equal, and write nothing. Conditions: both slices read as lists of integers.
  Loops over a slice of integers that only read it: whether it has a number, whether all its numbers are bytes, whether it is a list of methods, which method is picked; the program's functions and the reference's return the same plain function of the list. Conditions: each slice reads as a list of integers.
  The library's slices.Equal, IndexFunc and ContainsFunc at integers, and whether all numbers are bytes (BytesValid of the program and of the reference return the same plain function). Conditions: each slice reads as a list of integers.
  The program's reader of bytes as plain functions of the bytes, the place and whether it has failed. Plain lists, no walk. Conditions: none.
-/
import Derived.Test.YtpcflkdeoafpeaaDoorBase
import Derived.Test.YtpcflkdeoafpeaaDoorProg
import Derived.Deep.QuietTactic
import Derived.BigQuiet
namespace Go.Proofs.YtpcflkdeoafpeaaDoor
open Go.RowKit

theorem take_snoc_eq {xs ys : List Int} {k : Nat} (hx : k < xs.length) (hy : k < ys.length) (h : xs.take k = ys.take k) (he : xs.getD k 0 = ys.getD k 0) : xs.take (k + 1) = ys.take (k + 1) := by
  rw [List.take_succ_eq_append_getElem hx, List.take_succ_eq_append_getElem hy, h]
  simp [List.getD, hx, hy] at he
  rw [he]
theorem ne_of_getD {xs ys : List Int} {k : Nat} (he : ¬ xs.getD k 0 = ys.getD k 0) : xs ≠ ys := fun h => he (by rw [h])

set_option maxHeartbeats 400000 in
theorem eqIntS_any (v u : Value) (xs ys : List Int) (w : World) (hv : Ints w 0 v xs) (hu : Ints w 0 u ys) :
    Calls Tryd.prog 11 #[v, u] w fun e w' => e = .returned (.bool (decide (xs = ys))) ∧ ∃ n, w' = w.drewN n := by
  obtain ⟨A, c, rfl, hc, hm, hA⟩ := hv.open_
  obtain ⟨B, d, rfl, hd, hn, hB⟩ := hu.open_
  by_cases hl : xs.length = ys.length
  · obtain ⟨n, hx, hy⟩ : ∃ n, xs.length = n ∧ ys.length = n := ⟨_, rfl, hl.symm⟩
    rw [hx, hy]
    rw [hx] at hc
    clear hl hv hu
    have HX := Lib.hid hx
    have HY := Lib.hid hy
    clear hx hy
    go_enter Tryd.func11, Tryd.ntmps11
    go_wp2
    go_loopw [5] (fun i wr => ∃ k m : Nat, k ≤ n ∧ i = .int .i64 k ∧ Hid (xs.take k = ys.take k) ∧ wr = w.drewN m) (fun i _ => n - (intOf i).toNat)
    case atStart => exact ⟨0, 0, Nat.zero_le _, rfl, Lib.hid rfl, rfl⟩
    case round =>
      obtain ⟨k, m, hk, rfl, HT, rfl⟩ := hrel
      by_cases hlt : k < n
      · obtain ⟨b, o, rfl, _, hb, hs⟩ := hA.resolve_left (fun h => by have := HX.out; rw [h] at this; simp at this; omega)
        obtain ⟨b', o', rfl, _, hb', hs'⟩ := hB.resolve_left (fun h => by have := HY.out; rw [h] at this; simp at this; omega)
        have c1 := hs.int_at (j := k) (by have := HX.out; omega)
        have c2 := hs'.int_at (j := k) (by have := HY.out; omega)
        obtain ⟨x, hx⟩ : ∃ x, xs.getD k 0 = x := ⟨_, rfl⟩
        obtain ⟨y, hy⟩ : ∃ y, ys.getD k 0 = y := ⟨_, rfl⟩
        rw [hx] at c1
        rw [hy] at c2
        have hi : (k : Int) < (n : Int) := by omega
        have hi0 : (0 : Int) ≤ (k : Int) := by omega
        clear hs hs' hA hB
        by_cases he : x = y
        · have HS : Hid (xs.take (k + 1) = ys.take (k + 1)) := Lib.hid (take_snoc_eq (by have := HX.out; omega) (by have := HY.out; omega) HT.out (by rw [hx, hy, he]))
          subst he
          clear hx hy HT
          go_wp2
          go_quiet (fail)
          go_wp2
          go_roundw
          case rel => exact ⟨k + 1, _, by omega, by go_num, HS, rfl⟩
          case measure => simp [intOf]; omega
        · have HS : Hid (xs ≠ ys) := Lib.hid (ne_of_getD (by rw [hx, hy]; exact he))
          have hne : (x != y) = true := by simpa using he
          clear hx hy HT he
          go_wp2
          go_quiet (fail)
          go_wp2
          go_ret
          exact ⟨ret_bool (by simp [HS.out]), by first | exact ⟨_, rfl⟩ | exact ⟨_, World.drewN_drewN _ _ _⟩⟩
      · have HS : Hid (xs = ys) := Lib.hid (by
          have h1 := HX.out
          have h2 := HY.out
          have h3 := HT.out
          rw [List.take_of_length_le (by omega), List.take_of_length_le (by omega)] at h3
          exact h3)
        clear HT
        go_wp2
        go_ret
        exact ⟨ret_bool (by simp [HS.out]), by first | exact ⟨_, rfl⟩ | exact ⟨_, World.drewN_drewN _ _ _⟩⟩
  · have hne : ((xs.length : Int) != (ys.length : Int)) = true := by simp; omega
    have HS : Hid (xs ≠ ys) := Lib.hid (fun h => hl (by rw [h]))
    clear hl
    go_enter Tryd.func11, Tryd.ntmps11
    go_wp2
    go_ret
    exact ⟨ret_bool (by simp [HS.out]), 0, rfl⟩

set_option maxHeartbeats 400000 in
theorem sameBytes_any (v u : Value) (xs ys : List Int) (w : World) (hv : Ints w 0 v xs) (hu : Ints w 0 u ys) :
    Calls Tryd.prog 8 #[v, u] w fun e w' => e = .returned (.bool (decide (xs = ys))) ∧ ∃ n, w' = w.drewN n := by
  obtain ⟨A, c, rfl, hc, hm, hA⟩ := hv.open_
  obtain ⟨B, d, rfl, hd, hn, hB⟩ := hu.open_
  by_cases hl : xs.length = ys.length
  · obtain ⟨n, hx, hy⟩ : ∃ n, xs.length = n ∧ ys.length = n := ⟨_, rfl, hl.symm⟩
    rw [hx, hy]
    rw [hx] at hc
    clear hl hv hu
    have HX := Lib.hid hx
    have HY := Lib.hid hy
    clear hx hy
    go_enter Tryd.func8, Tryd.ntmps8
    go_wp2
    go_loopw [5] (fun i wr => ∃ k m : Nat, k ≤ n ∧ i = .int .i64 k ∧ Hid (xs.take k = ys.take k) ∧ wr = w.drewN m) (fun i _ => n - (intOf i).toNat)
    case atStart => exact ⟨0, 0, Nat.zero_le _, rfl, Lib.hid rfl, rfl⟩
    case round =>
      obtain ⟨k, m, hk, rfl, HT, rfl⟩ := hrel
      by_cases hlt : k < n
      · obtain ⟨b, o, rfl, _, hb, hs⟩ := hA.resolve_left (fun h => by have := HX.out; rw [h] at this; simp at this; omega)
        obtain ⟨b', o', rfl, _, hb', hs'⟩ := hB.resolve_left (fun h => by have := HY.out; rw [h] at this; simp at this; omega)
        have c1 := hs.int_at (j := k) (by have := HX.out; omega)
        have c2 := hs'.int_at (j := k) (by have := HY.out; omega)
        obtain ⟨x, hx⟩ : ∃ x, xs.getD k 0 = x := ⟨_, rfl⟩
        obtain ⟨y, hy⟩ : ∃ y, ys.getD k 0 = y := ⟨_, rfl⟩
        rw [hx] at c1
        rw [hy] at c2
        have hi : (k : Int) < (n : Int) := by omega
        have hi0 : (0 : Int) ≤ (k : Int) := by omega
        clear hs hs' hA hB
        by_cases he : x = y
        · have HS : Hid (xs.take (k + 1) = ys.take (k + 1)) := Lib.hid (take_snoc_eq (by have := HX.out; omega) (by have := HY.out; omega) HT.out (by rw [hx, hy, he]))
          subst he
          clear hx hy HT
          go_wp2
          go_quiet (fail)
          go_wp2
          go_roundw
          case rel => exact ⟨k + 1, _, by omega, by go_num, HS, rfl⟩
          case measure => simp [intOf]; omega
        · have HS : Hid (xs ≠ ys) := Lib.hid (ne_of_getD (by rw [hx, hy]; exact he))
          have hne : (x != y) = true := by simpa using he
          clear hx hy HT he
          go_wp2
          go_quiet (fail)
          go_wp2
          go_ret
          exact ⟨ret_bool (by simp [HS.out]), by first | exact ⟨_, rfl⟩ | exact ⟨_, World.drewN_drewN _ _ _⟩⟩
      · have HS : Hid (xs = ys) := Lib.hid (by
          have h1 := HX.out
          have h2 := HY.out
          have h3 := HT.out
          rw [List.take_of_length_le (by omega), List.take_of_length_le (by omega)] at h3
          exact h3)
        clear HT
        go_wp2
        go_ret
        exact ⟨ret_bool (by simp [HS.out]), by first | exact ⟨_, rfl⟩ | exact ⟨_, World.drewN_drewN _ _ _⟩⟩
  · have hne : ((xs.length : Int) != (ys.length : Int)) = true := by simp; omega
    have HS : Hid (xs ≠ ys) := Lib.hid (fun h => hl (by rw [h]))
    clear hl
    go_enter Tryd.func8, Tryd.ntmps8
    go_wp2
    go_ret
    exact ⟨ret_bool (by simp [HS.out]), 0, rfl⟩
end Go.Proofs.YtpcflkdeoafpeaaDoor
namespace Go.Proofs.YtpcflkdeoafpeaaDoor
open Go.RowKit

/-- low ≤ x ≤ high -/
def inR (x lo hi : Int) : Bool := decide (lo ≤ x) && decide (x ≤ hi)

theorem within_any (x lo hi : Int) (w : World) : Calls Tryd.prog 36 #[.int .i64 x, .int .i64 lo, .int .i64 hi] w fun e w' => e = .returned (.bool (inR x lo hi)) ∧ w = w' := by
  by_cases h1 : lo ≤ x
  · by_cases h2 : x ≤ hi
    · go_enter Tryd.func36, Tryd.ntmps36
      go_wp2
      go_ret
      exact ⟨ret_bool (by simp [inR, h1, h2]), rfl⟩
    · go_enter Tryd.func36, Tryd.ntmps36
      go_wp2
      go_ret
      exact ⟨ret_bool (by simp [inR, h1, h2]), rfl⟩
  · go_enter Tryd.func36, Tryd.ntmps36
    go_wp2
    go_ret
    exact ⟨ret_bool (by simp [inR]; omega), rfl⟩

theorem l6In_any (x lo hi : Int) (w : World) : Calls Tryd.prog 34 #[.int .i64 x, .int .i64 lo, .int .i64 hi] w fun e w' => e = .returned (.bool (inR x lo hi)) ∧ w = w' := by
  by_cases h1 : lo ≤ x
  · by_cases h2 : x ≤ hi
    · go_enter Tryd.func34, Tryd.ntmps34
      go_wp2
      go_ret
      exact ⟨ret_bool (by simp [inR, h1, h2]), rfl⟩
    · go_enter Tryd.func34, Tryd.ntmps34
      go_wp2
      go_ret
      exact ⟨ret_bool (by simp [inR, h1, h2]), rfl⟩
  · go_enter Tryd.func34, Tryd.ntmps34
    go_wp2
    go_ret
    exact ⟨ret_bool (by simp [inR]; omega), rfl⟩
end Go.Proofs.YtpcflkdeoafpeaaDoor
namespace Go.Proofs.YtpcflkdeoafpeaaDoor
open Go.RowKit

/-- All of them are bytes, and they are not too many. -/
def bytesTo (zs : List Int) (k : Nat) : Bool := (List.range k).all fun j => inR (zs.getD j 0) 0 255
def validL (zs : List Int) : Bool := decide (zs.length ≤ 120) && bytesTo zs zs.length
theorem bytesTo_succ {zs : List Int} {k : Nat} {y : Int} (h : bytesTo zs k = true) (hy : zs.getD k 0 = y) (h1 : inR y 0 255 = true) : bytesTo zs (k + 1) = true := by
  unfold bytesTo at *
  rw [List.range_succ, List.all_append, h]
  simp only [List.all_cons, List.all_nil, hy, h1]
  rfl
theorem bytesTo_not {zs : List Int} {k : Nat} {y : Int} (hk : k < zs.length) (hy : zs.getD k 0 = y) (h : inR y 0 255 = false) : bytesTo zs zs.length = false := by
  unfold bytesTo
  rw [List.all_eq_false]
  exact ⟨k, List.mem_range.2 hk, by rw [hy, h]; simp⟩
theorem validL_not {zs : List Int} (h : bytesTo zs zs.length = false) : validL zs = false := by unfold validL; rw [h]; simp

theorem valid1_any (x : Int) (w : World) : Calls Tryd.prog 53 #[.int .i64 x] w fun e w' => e = .returned (.bool (!inR x 0 255)) ∧ w = w' := by
  go_enter Tryd.func53, Tryd.ntmps53
  go_wp2_with fail
  refine (within_any _ _ _ _).mono ?_
  rintro e w' ⟨rfl, rfl⟩
  go_wp2_with fail
  go_ret
  exact ⟨rfl, rfl⟩

set_option maxHeartbeats 1000000 in
theorem spec_BytesValid_any (v : Value) (zs : List Int) (w : World) (hv : Ints w 0 v zs) :
    Calls Tryd.prog 33 #[v] w fun e w' => e = .returned (.bool (validL zs)) ∧ w = w' := by
  obtain ⟨A, c, rfl, hc, hm, hA⟩ := hv.open_
  clear hv
  go_enter Tryd.func33, Tryd.ntmps33
  go_wp2
  go_loop [3] (fun i => ∃ k : Nat, k ≤ zs.length ∧ i = .int .i64 k ∧ Hid (bytesTo zs k = true)) (fun i => zs.length - (intOf i).toNat)
  case atStart => exact ⟨0, Nat.zero_le _, rfl, Lib.hid (by simp [bytesTo])⟩
  case round =>
    obtain ⟨k, hk, rfl, HT⟩ := hrel
    by_cases hlt : k < zs.length
    · obtain ⟨b, o, rfl, _, hb, hs⟩ := hA.resolve_left (fun h => by rw [h] at hlt; simp at hlt)
      have c1 := hs.int_at (j := k) hlt
      obtain ⟨y, hy⟩ : ∃ y, zs.getD k 0 = y := ⟨_, rfl⟩
      rw [hy] at c1
      have hi : (k : Int) < (zs.length : Int) := by omega
      clear hs hA
      cases h1 : inR y 0 255
      · have HS : Hid (validL zs = false) := Lib.hid (validL_not (bytesTo_not hlt hy h1))
        clear hy HT
        go_wp2_with (go_at_call 34; refine (l6In_any _ _ _ _).mono ?_; rintro e w' ⟨rfl, rfl⟩)
        go_ret
        exact ⟨ret_bool HS.out.symm, rfl⟩
      · have HS : Hid (bytesTo zs (k + 1) = true) := Lib.hid (bytesTo_succ HT.out hy h1)
        clear hy HT
        go_wp2_with (go_at_call 34; refine (l6In_any _ _ _ _).mono ?_; rintro e w' ⟨rfl, rfl⟩)
        go_round
        case rel => exact ⟨k + 1, by omega, by go_num, HS⟩
        case measure => simp [intOf]; omega
    · have HS : Hid (validL zs = decide ((zs.length : Int) ≤ 120)) := Lib.hid (by
        have h := HT.out
        rw [show k = zs.length by omega] at h
        unfold validL
        rw [h, Bool.and_true]
        simp; omega)
      clear HT
      go_wp2
      go_ret
      exact ⟨ret_bool HS.out.symm, rfl⟩

set_option maxHeartbeats 1000000 in
theorem IndexFunc_any (v : Value) (zs : List Int) (w : World) (hv : Ints w 0 v zs) :
    Calls Tryd.prog 63 #[v, .func (.func 53) #[] #[]] w fun e w' => ∃ i, e = .returned (.int .i64 i) ∧ Hid (decide (0 ≤ i) = !bytesTo zs zs.length) ∧ w = w' := by
  obtain ⟨A, c, rfl, hc, hm, hA⟩ := hv.open_
  clear hv
  go_enter Tryd.func63, Tryd.ntmps63
  go_wp2
  go_loop [8] (fun i => ∃ k : Nat, k ≤ zs.length ∧ i = .int .i64 k ∧ Hid (bytesTo zs k = true)) (fun i => zs.length - (intOf i).toNat)
  case atStart => exact ⟨0, Nat.zero_le _, rfl, Lib.hid (by simp [bytesTo])⟩
  case round =>
    obtain ⟨k, hk, rfl, HT⟩ := hrel
    by_cases hlt : k < zs.length
    · obtain ⟨b, o, rfl, _, hb, hs⟩ := hA.resolve_left (fun h => by rw [h] at hlt; simp at hlt)
      have c1 := hs.int_at (j := k) hlt
      obtain ⟨y, hy⟩ : ∃ y, zs.getD k 0 = y := ⟨_, rfl⟩
      rw [hy] at c1
      have hi : (k : Int) < (zs.length : Int) := by omega
      clear hs hA
      cases h1 : inR y 0 255
      · have HS := Lib.hid (bytesTo_not hlt hy h1)
        clear hy HT
        go_wp2_with (go_at_call 53; refine (valid1_any _ _).mono ?_; rintro e w' ⟨rfl, rfl⟩)
        go_ret
        exact ⟨_, rfl, Lib.hid (by rw [HS.out]; simp), rfl⟩
      · have HS : Hid (bytesTo zs (k + 1) = true) := Lib.hid (bytesTo_succ HT.out hy h1)
        clear hy HT
        go_wp2_with (go_at_call 53; refine (valid1_any _ _).mono ?_; rintro e w' ⟨rfl, rfl⟩)
        go_round
        case rel => exact ⟨k + 1, by omega, by go_num, HS⟩
        case measure => simp [intOf]; omega
    · have HS : Hid (bytesTo zs zs.length = true) := Lib.hid (by
        have h := HT.out
        rw [show k = zs.length by omega] at h
        exact h)
      clear HT
      go_wp2
      go_ret
      exact ⟨_, rfl, Lib.hid (by rw [HS.out]; simp), rfl⟩

theorem ContainsFunc_any (v : Value) (zs : List Int) (w : World) (hv : Ints w 0 v zs) :
    Calls Tryd.prog 52 #[v, .func (.func 53) #[] #[]] w fun e w' => e = .returned (.bool (!bytesTo zs zs.length)) ∧ w = w' := by
  go_enter Tryd.func52, Tryd.ntmps52
  go_wp2_with fail
  refine (IndexFunc_any _ zs _ hv).mono ?_
  rintro e w' ⟨i, rfl, HI, rfl⟩
  go_wp2_with fail
  go_ret
  exact ⟨ret_bool HI.out, rfl⟩

theorem impl_BytesValid_any (v : Value) (zs : List Int) (w : World) (hv : Ints w 0 v zs) :
    Calls Tryd.prog 38 #[v] w fun e w' => e = .returned (.bool (validL zs)) ∧ w = w' := by
  have HV := Lib.hid hv
  obtain ⟨A, c, rfl, hc, hm, _⟩ := hv.open_
  clear hv
  by_cases h : zs.length ≤ 120
  · have h' : (zs.length : Int) ≤ 120 := by omega
    have HS : Hid (validL zs = bytesTo zs zs.length) := Lib.hid (by unfold validL; simp [h])
    clear h
    go_enter Tryd.func38, Tryd.ntmps38
    go_wp2_with fail
    refine (ContainsFunc_any _ zs _ HV.out).mono ?_
    rintro e w' ⟨rfl, rfl⟩
    go_wp2_with fail
    go_ret
    exact ⟨ret_bool (by rw [HS.out]), rfl⟩
  · have h' : (120 : Int) < (zs.length : Int) := by omega
    have HS : Hid (validL zs = false) := Lib.hid (by unfold validL; simp [h])
    clear h
    go_enter Tryd.func38, Tryd.ntmps38
    go_wp2_with fail
    go_ret
    exact ⟨ret_bool HS.out.symm, rfl⟩
end Go.Proofs.YtpcflkdeoafpeaaDoor
namespace Go.Proofs.YtpcflkdeoafpeaaDoor
open Go.RowKit

/-- So many bytes are there. -/
def rOk (zs : List Int) (s : Nat × Bool) (n : Nat) : Bool := !s.2 && decide (s.1 + n ≤ zs.length)
/-- The reader behind a read of n bytes. -/
def rNext (zs : List Int) (s : Nat × Bool) (n : Nat) : Nat × Bool := if rOk zs s n = true then (s.1 + n, false) else (s.1, true)
/-- What a read of n bytes returns. -/
def rGot (zs : List Int) (s : Nat × Bool) (n : Nat) : List Int := if rOk zs s n = true then (zs.drop s.1).take n else List.replicate n 0
def rByte (zs : List Int) (s : Nat × Bool) : Int := (rGot zs s 1).getD 0 0
/-- The reader behind bytes that were told. -/
def rTold (zs : List Int) (s : Nat × Bool) (bs : List Int) : Nat × Bool := ((rNext zs s bs.length).1, (rNext zs s bs.length).2 || !decide (rGot zs s bs.length = bs))
def rStart (zs : List Int) : Nat × Bool := (0, !validL zs)
/-- A reader that has not failed has valid bytes, and stands in them. -/
def RFit (zs : List Int) (s : Nat × Bool) : Prop := s.1 ≤ zs.length ∧ (s.2 = false → validL zs = true)

theorem rNext_good {zs : List Int} {p n : Nat} (h : p + n ≤ zs.length) : rNext zs (p, false) n = (p + n, false) := by simp [rNext, rOk, h]
theorem rGot_good {zs : List Int} {p n : Nat} (h : p + n ≤ zs.length) : rGot zs (p, false) n = (zs.drop p).take n := by simp [rGot, rOk, h]
theorem rNext_long {zs : List Int} {p n : Nat} (h : zs.length < p + n) : rNext zs (p, false) n = (p, true) := by
  have h' : ¬ p + n ≤ zs.length := by omega
  simp [rNext, rOk, h']
theorem rGot_long {zs : List Int} {p n : Nat} (h : zs.length < p + n) : rGot zs (p, false) n = List.replicate n 0 := by
  have h' : ¬ p + n ≤ zs.length := by omega
  simp [rGot, rOk, h']
theorem rNext_bad (zs : List Int) (p n : Nat) : rNext zs (p, true) n = (p, true) := by simp [rNext, rOk]
theorem rGot_bad (zs : List Int) (p n : Nat) : rGot zs (p, true) n = List.replicate n 0 := by simp [rGot, rOk]
theorem rGot_length (zs : List Int) (s : Nat × Bool) (n : Nat) : (rGot zs s n).length = n := by
  unfold rGot
  split
  · next h =>
    simp [rOk] at h
    simp
    omega
  · simp
theorem rByte_good {zs : List Int} {p : Nat} (h : p + 1 ≤ zs.length) : rByte zs (p, false) = zs.getD p 0 := by
  unfold rByte
  rw [rGot_good h]
  simp [List.getD, List.getElem?_drop]
theorem rByte_bad (zs : List Int) (p : Nat) : rByte zs (p, true) = 0 := by
  unfold rByte
  rw [rGot_bad]
  rfl
theorem rByte_long {zs : List Int} {p : Nat} (h : zs.length < p + 1) : rByte zs (p, false) = 0 := by
  unfold rByte
  rw [rGot_long h]
  rfl
theorem rTold_bad (zs : List Int) (p : Nat) (bs : List Int) : rTold zs (p, true) bs = (p, true) := by simp [rTold, rNext_bad]
theorem rTold_long {zs : List Int} {p : Nat} {bs : List Int} (h : zs.length < p + bs.length) : rTold zs (p, false) bs = (p, true) := by simp [rTold, rNext_long h]
theorem rTold_good {zs : List Int} {p : Nat} {bs : List Int} (h : p + bs.length ≤ zs.length) (h2 : (zs.drop p).take bs.length = bs) : rTold zs (p, false) bs = (p + bs.length, false) := by
  simp [rTold, rNext_good h, rGot_good h, h2]
theorem rTold_other {zs : List Int} {p : Nat} {bs : List Int} (h : p + bs.length ≤ zs.length) (h2 : (zs.drop p).take bs.length ≠ bs) : rTold zs (p, false) bs = (p + bs.length, true) := by
  simp [rTold, rNext_good h, rGot_good h, h2]

theorem bytes_of_valid {zs : List Int} (h : validL zs = true) : ∀ x ∈ zs, 0 ≤ x ∧ x ≤ 255 := by
  intro x hx
  unfold validL bytesTo at h
  rw [Bool.and_eq_true, List.all_eq_true] at h
  obtain ⟨j, hj, rfl⟩ := List.getElem_of_mem hx
  have h1 := h.2 j (List.mem_range.2 hj)
  simp [inR, List.getD, hj] at h1
  exact h1
theorem validL_len {zs : List Int} (h : validL zs = true) : zs.length ≤ 120 := by
  unfold validL at h
  rw [Bool.and_eq_true] at h
  simpa using h.1
theorem validL_of {zs : List Int} (h : zs.length ≤ 120) (h2 : ∀ x ∈ zs, 0 ≤ x ∧ x ≤ 255) : validL zs = true := by
  unfold validL bytesTo
  rw [Bool.and_eq_true, List.all_eq_true]
  refine ⟨by simpa using h, fun j hj => ?_⟩
  have hj' : j < zs.length := List.mem_range.1 hj
  have h3 := h2 zs[j] (List.getElem_mem hj')
  simp [inR, List.getD, hj']
  exact h3
theorem rGot_bytes {zs : List Int} {s : Nat × Bool} (hf : RFit zs s) (n : Nat) : ∀ x ∈ rGot zs s n, 0 ≤ x ∧ x ≤ 255 := by
  intro x hx
  unfold rGot at hx
  split at hx
  · next h =>
    simp [rOk] at h
    exact bytes_of_valid (hf.2 h.1) x (List.mem_of_mem_drop (List.mem_of_mem_take hx))
  · rw [List.mem_replicate] at hx
    omega
theorem rByte_range {zs : List Int} {s : Nat × Bool} (hf : RFit zs s) : 0 ≤ rByte zs s ∧ rByte zs s ≤ 255 := by
  have hl := rGot_length zs s 1
  have h := rGot_bytes hf 1 (rByte zs s) (by
    unfold rByte
    cases hg : rGot zs s 1 with
    | nil => rw [hg] at hl; simp at hl
    | cons x r => simp)
  exact h
theorem RFit.start (zs : List Int) : RFit zs (rStart zs) := ⟨Nat.zero_le _, by cases h : validL zs <;> simp [rStart, h]⟩
theorem RFit.next {zs : List Int} {s : Nat × Bool} (hf : RFit zs s) (n : Nat) : RFit zs (rNext zs s n) := by
  unfold rNext
  split
  · next h =>
    simp [rOk] at h
    exact ⟨h.2, fun _ => hf.2 h.1⟩
  · exact ⟨hf.1, fun h => by cases h⟩
theorem RFit.told {zs : List Int} {s : Nat × Bool} (hf : RFit zs s) (bs : List Int) : RFit zs (rTold zs s bs) := by
  have h := hf.next bs.length
  refine ⟨h.1, fun hb => h.2 ?_⟩
  simp [rTold] at hb
  exact hb.1
end Go.Proofs.YtpcflkdeoafpeaaDoor

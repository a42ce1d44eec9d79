/-
  Two valid addresses have one text: equalAddresses of the program, l13Same of the reference. Conditions: both addresses are valid; the table of powers of ten reads as it was laid.
-/
import Derived.Test.YtpcflkdeoafpeaaDoorAdT
namespace Go.Proofs.YtpcflkdeoafpeaaDoor
open Go.RowKit Go.Sort

/-- The walk compares texts by their lists of bytes. -/
theorem text_eq (a b : ByteArray) : (a.toList == b.toList) = decide (a = b) := by
  by_cases h : a = b
  · subst h
    simp
  · rw [decide_eq_false h]
    refine beq_eq_false_iff_ne.2 fun e => h ?_
    apply ByteArray.ext
    apply Array.ext'
    rw [Lib.toList_data, Lib.toList_data] at e
    exact e

set_option maxRecDepth 100000 in
set_option maxHeartbeats 4000000 in
theorem equalAddresses_any (k1 : Int) (q1 : Value) (nm1 : ByteArray) (p1 : Int) (qs1 : List Int) (k2 : Int) (q2 : Value) (nm2 : ByteArray) (p2 : Int) (qs2 : List Int) (w : World) (hq1 : Ints w 0 q1 qs1) (hq2 : Ints w 0 q2 qs2) (h1 : adOk k1 qs1 nm1 p1 = true) (h2 : adOk k2 qs2 nm2 p2 = true) (ht : Tabs w) :
    Calls Tryd.prog 22 #[.agg #[.int .i64 k1, q1, .string nm1, .int .i64 p1], .agg #[.int .i64 k2, q2, .string nm2, .int .i64 p2]] w fun e w' => e = .returned (.bool (decide (adT k1 qs1 nm1 p1 = adT k2 qs2 nm2 p2))) ∧ Below w.heap.size w w' := by
  have HQ1 := Lib.hid hq1
  have HQ2 := Lib.hid hq2
  obtain ⟨A1, c1, rfl, _, _, _⟩ := hq1.open_
  obtain ⟨A2, c2, rfl, _, _, _⟩ := hq2.open_
  obtain ⟨V, hV⟩ : ∃ V, (w.alloc (.cells #[.int .i64 k1, .slice A1 qs1.length c1, .string nm1, .int .i64 p1] 30)).alloc (.cells #[.int .i64 k2, .slice A2 qs2.length c2, .string nm2, .int .i64 p2] 30) = V := ⟨_, rfl⟩
  have K1 : Hid (Blk V w.heap.size 30 #[.int .i64 k1, .slice A1 qs1.length c1, .string nm1, .int .i64 p1]) := Lib.hid (by rw [← hV]; exact (Blk.new _ _ _).alloc _)
  have K2 : Hid (Blk V (w.heap.size + 1) 30 #[.int .i64 k2, .slice A2 qs2.length c2, .string nm2, .int .i64 p2]) := Lib.hid (by rw [← hV]; exact Blk.new_ (by simp))
  have B : Hid (Below w.heap.size w V) := Lib.hid (by rw [← hV]; exact ((Below.refl _ _).alloc (Nat.le_refl _) _).alloc (by simp) _)
  have I1 : Hid (Ints V 0 (.slice A1 qs1.length c1) qs1) := Lib.hid (by rw [← hV]; exact (HQ1.out.alloc _).alloc _)
  have I2 : Hid (Ints V 0 (.slice A2 qs2.length c2) qs2) := Lib.hid (by rw [← hV]; exact (HQ2.out.alloc _).alloc _)
  have TB : Hid (Tabs V) := Lib.hid (by rw [← hV]; exact (ht.alloc _).alloc _)
  have a10 : V.cell? ⟨w.heap.size, 0, none⟩ = some (.int .i64 k1) := K1.out.cell 0
  have k10 := cell_regrown a10
  have a11 : V.cell? ⟨w.heap.size, 1, none⟩ = some (.slice A1 qs1.length c1) := K1.out.cell 1
  have k11 := cell_regrown a11
  have a12 : V.cell? ⟨w.heap.size, 2, none⟩ = some (.string nm1) := K1.out.cell 2
  have k12 := cell_regrown a12
  have a13 : V.cell? ⟨w.heap.size, 3, none⟩ = some (.int .i64 p1) := K1.out.cell 3
  have k13 := cell_regrown a13
  have a20 : V.cell? ⟨(w.heap.size + 1), 0, none⟩ = some (.int .i64 k2) := K2.out.cell 0
  have k20 := cell_regrown a20
  have a21 : V.cell? ⟨(w.heap.size + 1), 1, none⟩ = some (.slice A2 qs2.length c2) := K2.out.cell 1
  have k21 := cell_regrown a21
  have a22 : V.cell? ⟨(w.heap.size + 1), 2, none⟩ = some (.string nm2) := K2.out.cell 2
  have k22 := cell_regrown a22
  have a23 : V.cell? ⟨(w.heap.size + 1), 3, none⟩ = some (.int .i64 p2) := K2.out.cell 3
  have k23 := cell_regrown a23
  obtain ⟨T1, hT1⟩ : ∃ T, adT k1 qs1 nm1 p1 = T := ⟨_, rfl⟩
  have Q1 : Hid (∀ d os, Calls Tryd.prog 39 #[.agg #[.int .i64 k1, .slice A1 qs1.length c1, .string nm1, .int .i64 p1]] (grow (redrawn V d) os) fun e w'' => e = .returned (.string T1) ∧ ∃ p : Regrown, w'' = grow (redrawn V p.d) p.os) := Lib.hid fun d os => Calls.regrown_of (by rw [← hT1]; exact addressText_any k1 _ nm1 p1 qs1 _ (I1.out.below (below_regrown V d os)) h1 (Tabs.below TB.out (below_regrown V d os)))
  obtain ⟨T2, hT2⟩ : ∃ T, adT k2 qs2 nm2 p2 = T := ⟨_, rfl⟩
  have Q2 : Hid (∀ d os, Calls Tryd.prog 39 #[.agg #[.int .i64 k2, .slice A2 qs2.length c2, .string nm2, .int .i64 p2]] (grow (redrawn V d) os) fun e w'' => e = .returned (.string T2) ∧ ∃ p : Regrown, w'' = grow (redrawn V p.d) p.os) := Lib.hid fun d os => Calls.regrown_of (by rw [← hT2]; exact addressText_any k2 _ nm2 p2 qs2 _ (I2.out.below (below_regrown V d os)) h2 (Tabs.below TB.out (below_regrown V d os)))
  rw [hT1, hT2]
  clear hT1 hT2 h1 h2 hq1 hq2 a10 a11 a12 a13 a20 a21 a22 a23
  go_enter Tryd.func22, Tryd.ntmps22
  go_wp2_with fail
  clear hV
  refine wp_region_quiet_below (by kernel_rfl) (by kernel_rfl) ?_
  repeat (go_big_quiet_step (first | with_reducible exact Q1.out _ _ | with_reducible exact Q2.out _ _))
  refine wpQuiet_nil ?_
  intro _ hw'
  obtain ⟨⟨dq, osq⟩, hw''⟩ := hw'
  subst hw''
  go_wp2_with fail
  go_ret
  exact ⟨by rw [← text_eq]; rfl, B.out.trans ((below_regrown V dq osq).mono B.out.size)⟩

set_option maxRecDepth 100000 in
set_option maxHeartbeats 4000000 in
theorem l13Same_any (k1 : Int) (q1 : Value) (nm1 : ByteArray) (p1 : Int) (qs1 : List Int) (k2 : Int) (q2 : Value) (nm2 : ByteArray) (p2 : Int) (qs2 : List Int) (w : World) (hq1 : Ints w 0 q1 qs1) (hq2 : Ints w 0 q2 qs2) (h1 : adOk k1 qs1 nm1 p1 = true) (h2 : adOk k2 qs2 nm2 p2 = true) (hn1 : nm1.size < 4294967281) (hn2 : nm2.size < 4294967281) :
    Calls Tryd.prog 24 #[.agg #[.int .i64 k1, q1, .string nm1, .int .i64 p1], .agg #[.int .i64 k2, q2, .string nm2, .int .i64 p2]] w fun e w' => e = .returned (.bool (decide (adT k1 qs1 nm1 p1 = adT k2 qs2 nm2 p2))) ∧ Below w.heap.size w w' := by
  have HQ1 := Lib.hid hq1
  have HQ2 := Lib.hid hq2
  obtain ⟨A1, c1, rfl, _, _, _⟩ := hq1.open_
  obtain ⟨A2, c2, rfl, _, _, _⟩ := hq2.open_
  obtain ⟨V, hV⟩ : ∃ V, (w.alloc (.cells #[.int .i64 k1, .slice A1 qs1.length c1, .string nm1, .int .i64 p1] 30)).alloc (.cells #[.int .i64 k2, .slice A2 qs2.length c2, .string nm2, .int .i64 p2] 30) = V := ⟨_, rfl⟩
  have K1 : Hid (Blk V w.heap.size 30 #[.int .i64 k1, .slice A1 qs1.length c1, .string nm1, .int .i64 p1]) := Lib.hid (by rw [← hV]; exact (Blk.new _ _ _).alloc _)
  have K2 : Hid (Blk V (w.heap.size + 1) 30 #[.int .i64 k2, .slice A2 qs2.length c2, .string nm2, .int .i64 p2]) := Lib.hid (by rw [← hV]; exact Blk.new_ (by simp))
  have B : Hid (Below w.heap.size w V) := Lib.hid (by rw [← hV]; exact ((Below.refl _ _).alloc (Nat.le_refl _) _).alloc (by simp) _)
  have I1 : Hid (Ints V 0 (.slice A1 qs1.length c1) qs1) := Lib.hid (by rw [← hV]; exact (HQ1.out.alloc _).alloc _)
  have I2 : Hid (Ints V 0 (.slice A2 qs2.length c2) qs2) := Lib.hid (by rw [← hV]; exact (HQ2.out.alloc _).alloc _)
  have a10 : V.cell? ⟨w.heap.size, 0, none⟩ = some (.int .i64 k1) := K1.out.cell 0
  have k10 := cell_regrown a10
  have a11 : V.cell? ⟨w.heap.size, 1, none⟩ = some (.slice A1 qs1.length c1) := K1.out.cell 1
  have k11 := cell_regrown a11
  have a12 : V.cell? ⟨w.heap.size, 2, none⟩ = some (.string nm1) := K1.out.cell 2
  have k12 := cell_regrown a12
  have a13 : V.cell? ⟨w.heap.size, 3, none⟩ = some (.int .i64 p1) := K1.out.cell 3
  have k13 := cell_regrown a13
  have a20 : V.cell? ⟨(w.heap.size + 1), 0, none⟩ = some (.int .i64 k2) := K2.out.cell 0
  have k20 := cell_regrown a20
  have a21 : V.cell? ⟨(w.heap.size + 1), 1, none⟩ = some (.slice A2 qs2.length c2) := K2.out.cell 1
  have k21 := cell_regrown a21
  have a22 : V.cell? ⟨(w.heap.size + 1), 2, none⟩ = some (.string nm2) := K2.out.cell 2
  have k22 := cell_regrown a22
  have a23 : V.cell? ⟨(w.heap.size + 1), 3, none⟩ = some (.int .i64 p2) := K2.out.cell 3
  have k23 := cell_regrown a23
  obtain ⟨T1, hT1⟩ : ∃ T, adT k1 qs1 nm1 p1 = T := ⟨_, rfl⟩
  have Q1 : Hid (∀ d os, Calls Tryd.prog 40 #[.agg #[.int .i64 k1, .slice A1 qs1.length c1, .string nm1, .int .i64 p1]] (grow (redrawn V d) os) fun e w'' => e = .returned (.string T1) ∧ ∃ p : Regrown, w'' = grow (redrawn V p.d) p.os) := Lib.hid fun d os => Calls.regrown_of (by rw [← hT1, ← adX_ok h1]; exact spec_AddressText_any k1 _ nm1 p1 qs1 _ (I1.out.below (below_regrown V d os)) hn1)
  obtain ⟨T2, hT2⟩ : ∃ T, adT k2 qs2 nm2 p2 = T := ⟨_, rfl⟩
  have Q2 : Hid (∀ d os, Calls Tryd.prog 40 #[.agg #[.int .i64 k2, .slice A2 qs2.length c2, .string nm2, .int .i64 p2]] (grow (redrawn V d) os) fun e w'' => e = .returned (.string T2) ∧ ∃ p : Regrown, w'' = grow (redrawn V p.d) p.os) := Lib.hid fun d os => Calls.regrown_of (by rw [← hT2, ← adX_ok h2]; exact spec_AddressText_any k2 _ nm2 p2 qs2 _ (I2.out.below (below_regrown V d os)) hn2)
  rw [hT1, hT2]
  clear hT1 hT2 h1 h2 hq1 hq2 a10 a11 a12 a13 a20 a21 a22 a23
  go_enter Tryd.func24, Tryd.ntmps24
  go_wp2_with fail
  clear hV
  refine wp_region_quiet_below (by kernel_rfl) (by kernel_rfl) ?_
  repeat (go_big_quiet_step (first | with_reducible exact Q1.out _ _ | with_reducible exact Q2.out _ _))
  refine wpQuiet_nil ?_
  intro _ hw'
  obtain ⟨⟨dq, osq⟩, hw''⟩ := hw'
  subst hw''
  go_wp2_with fail
  go_ret
  exact ⟨by rw [← text_eq]; rfl, B.out.trans ((below_regrown V dq osq).mono B.out.size)⟩
end Go.Proofs.YtpcflkdeoafpeaaDoor

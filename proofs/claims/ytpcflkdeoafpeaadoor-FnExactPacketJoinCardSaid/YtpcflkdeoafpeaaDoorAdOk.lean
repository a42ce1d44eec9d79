/-
  Whether an address is valid: QuadValid, isPort and AddressValid of the program, QuadValid and AddressValid of the reference return the same plain functions. Conditions: the quad reads as a list of integers, the name has fewer than 2^32 - 15 bytes.
-/
import Derived.Test.YtpcflkdeoafpeaaDoorName
import Derived.Test.YtpcflkdeoafpeaaDoorPk
namespace Go.Proofs.YtpcflkdeoafpeaaDoor
open Go.RowKit

theorem impl_QuadValid_any (v : Value) (qs : List Int) (w : World) (hv : Ints w 0 v qs) : Calls Tryd.prog 49 #[v] w fun e w' => e = .returned (.bool (quadOk qs)) ∧ w = w' := by
  have HV := Lib.hid hv
  obtain ⟨A, c, rfl, hc, hm, _⟩ := hv.open_
  clear hv
  by_cases h4 : qs.length = 4
  · have E : Hid (quadOk qs = validL qs) := Lib.hid (by rw [quadOk, decide_eq_true h4]; rfl)
    have h4' : ((qs.length : Int) == 4) = true := by rw [h4]; rfl
    clear h4
    go_enter Tryd.func49, Tryd.ntmps49
    go_wp2_with (go_at_call 38; refine (impl_BytesValid_any _ qs _ HV.out).mono ?_; rintro e w' ⟨rfl, rfl⟩)
    go_ret
    exact ⟨ret_bool E.out.symm, rfl⟩
  · have E : Hid (quadOk qs = false) := Lib.hid (by rw [quadOk, decide_eq_false h4]; rfl)
    have h4' : ((qs.length : Int) == 4) = false := beq_eq_false_iff_ne.2 (by omega)
    clear h4
    go_enter Tryd.func49, Tryd.ntmps49
    go_wp2_with fail
    go_ret
    exact ⟨ret_bool E.out.symm, rfl⟩
theorem spec_QuadValid_any (v : Value) (qs : List Int) (w : World) (hv : Ints w 0 v qs) : Calls Tryd.prog 47 #[v] w fun e w' => e = .returned (.bool (quadOk qs)) ∧ w = w' := by
  have HV := Lib.hid hv
  obtain ⟨A, c, rfl, hc, hm, _⟩ := hv.open_
  clear hv
  have E : Hid (quadOk qs = (validL qs && decide ((qs.length : Int) = 4))) := Lib.hid (by rw [quadOk, Bool.and_comm]; congr 1; rw [decide_eq_decide]; omega)
  cases h : validL qs
  · go_enter Tryd.func47, Tryd.ntmps47
    go_wp2_with (go_at_call 33; refine (spec_BytesValid_any _ qs _ HV.out).mono ?_; rintro e w' ⟨rfl, rfl⟩; rw [h])
    go_ret
    exact ⟨ret_bool (by rw [E.out, h]; rfl), rfl⟩
  · go_enter Tryd.func47, Tryd.ntmps47
    go_wp2_with (go_at_call 33; refine (spec_BytesValid_any _ qs _ HV.out).mono ?_; rintro e w' ⟨rfl, rfl⟩; rw [h])
    go_ret
    exact ⟨ret_bool (by rw [E.out, h, Bool.true_and]; rfl), rfl⟩
theorem isPort_any (p : Int) (w : World) : Calls Tryd.prog 50 #[.int .i64 p] w fun e w' => e = .returned (.bool (portOk p)) ∧ w = w' := by
  go_enter Tryd.func50, Tryd.ntmps50
  go_wp2_with (go_at_call 36; refine (within_any _ _ _ _).mono ?_; rintro e w' ⟨rfl, rfl⟩)
  go_ret
  exact ⟨ret_bool rfl, rfl⟩

theorem adOk_1 (qs : List Int) (nm : ByteArray) (p : Int) : adOk 1 qs nm p = (portOk p && (quadOk qs && decide (nm.size = 0))) := by
  rw [adOk]
  simp
theorem adOk_3 (qs : List Int) (nm : ByteArray) (p : Int) : adOk 3 qs nm p = (portOk p && (nameOk nm && decide (qs.length = 0))) := by
  rw [adOk]
  simp
theorem adOk_other {k : Int} (h1 : k ≠ 1) (h3 : k ≠ 3) (qs : List Int) (nm : ByteArray) (p : Int) : adOk k qs nm p = false := by
  rw [adOk, decide_eq_false h1, decide_eq_false h3]
  simp

set_option maxRecDepth 100000 in
set_option maxHeartbeats 2000000 in
theorem impl_AddressValid_any (k : Int) (q : Value) (nm : ByteArray) (p : Int) (qs : List Int) (w : World) (hq : Ints w 0 q qs) (hn : nm.size < 4294967281) :
    Calls Tryd.prog 37 #[.agg #[.int .i64 k, q, .string nm, .int .i64 p]] w fun e w' => e = .returned (.bool (adOk k qs nm p)) ∧ Below w.heap.size w w' := by
  have HQ := Lib.hid hq
  obtain ⟨A, c, rfl, hc, hm, _⟩ := hq.open_
  have B0 : Hid (∀ cs, Below w.heap.size w (w.alloc (.cells cs 30))) := Lib.hid fun cs => (Below.refl _ _).alloc (Nat.le_refl _) _
  have K0 := Lib.hid (Blk.new w 30 #[.int .i64 k, .slice A qs.length c, .string nm, .int .i64 p])
  clear hq
  by_cases hk1 : k = 1
  · subst hk1
    cases h1 : quadOk qs
    · have E : Hid (adOk 1 qs nm p = false) := Lib.hid (by rw [adOk_1, h1]; simp)
      go_enter Tryd.func37, Tryd.ntmps37
      go_wp2_with (go_at_call 49; refine (impl_QuadValid_any _ qs _ (HQ.out.alloc _)).mono ?_; rintro e w' ⟨rfl, rfl⟩; rw [h1])
      go_ret
      exact ⟨ret_bool E.out.symm, B0.out _⟩
    by_cases h2 : 0 < nm.size
    · have E : Hid (adOk 1 qs nm p = false) := Lib.hid (by rw [adOk_1, decide_eq_false (by omega : ¬ nm.size = 0)]; simp)
      obtain ⟨e1, e2⟩ := not_empty h2
      go_enter Tryd.func37, Tryd.ntmps37
      go_wp2_with (go_at_call 49; refine (impl_QuadValid_any _ qs _ (HQ.out.alloc _)).mono ?_; rintro e w' ⟨rfl, rfl⟩; rw [h1])
      go_ret
      exact ⟨ret_bool E.out.symm, B0.out _⟩
    · obtain rfl := is_empty h2
      have E : Hid (adOk 1 qs ByteArray.empty p = portOk p) := Lib.hid (by rw [adOk_1, h1]; simp)
      go_enter Tryd.func37, Tryd.ntmps37
      go_wp2_with (first | (go_at_call 49; refine (impl_QuadValid_any _ qs _ (HQ.out.alloc _)).mono ?_; rintro e w' ⟨rfl, rfl⟩; rw [h1]) | (go_at_call 50; refine (isPort_any p _).mono ?_; rintro e w' ⟨rfl, rfl⟩))
      go_ret
      exact ⟨ret_bool E.out.symm, B0.out _⟩
  have hk1' : (k == 1) = false := by simpa using hk1
  by_cases hk3 : k = 3
  · subst hk3
    clear hk1 hk1'
    go_enter Tryd.func37, Tryd.ntmps37
    go_wp2_with fail
    refine (impl_NameValid_any nm _ hn).mono ?_
    rintro e w1 ⟨rfl, b1⟩
    have K1 := Lib.hid (K0.out.kept b1)
    have B1 := Lib.hid ((B0.out _).trans (b1.mono (by simp)))
    have a1 : w1.cell? ⟨w.heap.size, 1, none⟩ = some (.slice A qs.length c) := K1.out.cell 1
    have a3 : w1.cell? ⟨w.heap.size, 3, none⟩ = some (.int .i64 p) := K1.out.cell 3
    clear b1
    cases h1 : nameOk nm
    · have E : Hid (adOk 3 qs nm p = false) := Lib.hid (by rw [adOk_3, h1]; simp)
      go_wp2_with fail
      go_ret
      exact ⟨ret_bool E.out.symm, B1.out⟩
    by_cases h2 : qs.length = 0
    · have E : Hid (adOk 3 qs nm p = portOk p) := Lib.hid (by rw [adOk_3, h1, decide_eq_true h2]; simp)
      have h2' : ((qs.length : Int) == 0) = true := by rw [h2]; rfl
      clear h2
      go_wp2_with (go_at_call 50; refine (isPort_any p _).mono ?_; rintro e w' ⟨rfl, rfl⟩)
      go_ret
      exact ⟨ret_bool E.out.symm, B1.out⟩
    · have E : Hid (adOk 3 qs nm p = false) := Lib.hid (by rw [adOk_3, decide_eq_false h2]; simp)
      have h2' : ((qs.length : Int) == 0) = false := beq_eq_false_iff_ne.2 (by omega)
      clear h2
      go_wp2_with fail
      go_ret
      exact ⟨ret_bool E.out.symm, B1.out⟩
  · have hk3' : (k == 3) = false := by simpa using hk3
    have E : Hid (adOk k qs nm p = false) := Lib.hid (adOk_other hk1 hk3 _ _ _)
    clear hk1 hk3
    go_enter Tryd.func37, Tryd.ntmps37
    go_wp2_with fail
    go_ret
    exact ⟨ret_bool E.out.symm, B0.out _⟩

set_option maxRecDepth 100000 in
set_option maxHeartbeats 2000000 in
theorem spec_AddressValid_any (k : Int) (q : Value) (nm : ByteArray) (p : Int) (qs : List Int) (w : World) (hq : Ints w 0 q qs) (hn : nm.size < 4294967281) :
    Calls Tryd.prog 32 #[.agg #[.int .i64 k, q, .string nm, .int .i64 p]] w fun e w' => e = .returned (.bool (adOk k qs nm p)) ∧ Below w.heap.size w w' := by
  have HQ := Lib.hid hq
  obtain ⟨A, c, rfl, hc, hm, _⟩ := hq.open_
  have B0 : Hid (∀ cs, Below w.heap.size w (w.alloc (.cells cs 30))) := Lib.hid fun cs => (Below.refl _ _).alloc (Nat.le_refl _) _
  have K0 := Lib.hid (Blk.new w 30 #[.int .i64 k, .slice A qs.length c, .string nm, .int .i64 p])
  have EP : Hid (inR p 0 65535 = portOk p) := Lib.hid rfl
  clear hq
  cases hp : portOk p
  · have E : Hid (adOk k qs nm p = false) := Lib.hid (by rw [adOk, hp]; rfl)
    go_enter Tryd.func32, Tryd.ntmps32
    go_wp2_with (go_at_call 34; refine (l6In_any _ _ _ _).mono ?_; rintro e w' ⟨rfl, rfl⟩; rw [EP.out, hp])
    go_ret
    exact ⟨ret_bool E.out.symm, B0.out _⟩
  by_cases hk1 : k = 1
  · subst hk1
    cases h1 : quadOk qs
    · have E : Hid (adOk 1 qs nm p = false) := Lib.hid (by rw [adOk_1, h1]; simp)
      go_enter Tryd.func32, Tryd.ntmps32
      go_wp2_with (first | (go_at_call 34; refine (l6In_any _ _ _ _).mono ?_; rintro e w' ⟨rfl, rfl⟩; rw [EP.out, hp]) | (go_at_call 47; refine (spec_QuadValid_any _ qs _ (HQ.out.alloc _)).mono ?_; rintro e w' ⟨rfl, rfl⟩; rw [h1]))
      go_ret
      exact ⟨ret_bool E.out.symm, B0.out _⟩
    by_cases h2 : 0 < nm.size
    · have E : Hid (adOk 1 qs nm p = false) := Lib.hid (by rw [adOk_1, decide_eq_false (by omega : ¬ nm.size = 0)]; simp)
      obtain ⟨e1, e2⟩ := not_empty h2
      go_enter Tryd.func32, Tryd.ntmps32
      go_wp2_with (first | (go_at_call 34; refine (l6In_any _ _ _ _).mono ?_; rintro e w' ⟨rfl, rfl⟩; rw [EP.out, hp]) | (go_at_call 47; refine (spec_QuadValid_any _ qs _ (HQ.out.alloc _)).mono ?_; rintro e w' ⟨rfl, rfl⟩; rw [h1]))
      go_ret
      exact ⟨ret_bool E.out.symm, B0.out _⟩
    · obtain rfl := is_empty h2
      have E : Hid (adOk 1 qs ByteArray.empty p = true) := Lib.hid (by rw [adOk_1, h1, hp]; simp)
      go_enter Tryd.func32, Tryd.ntmps32
      go_wp2_with (first | (go_at_call 34; refine (l6In_any _ _ _ _).mono ?_; rintro e w' ⟨rfl, rfl⟩; rw [EP.out, hp]) | (go_at_call 47; refine (spec_QuadValid_any _ qs _ (HQ.out.alloc _)).mono ?_; rintro e w' ⟨rfl, rfl⟩; rw [h1]))
      go_ret
      exact ⟨ret_bool E.out.symm, B0.out _⟩
  have hk1' : (k == 1) = false := by simpa using hk1
  by_cases hk3 : k = 3
  · subst hk3
    clear hk1 hk1'
    go_enter Tryd.func32, Tryd.ntmps32
    go_wp2_with (go_at_call 34; refine (l6In_any _ _ _ _).mono ?_; rintro e w' ⟨rfl, rfl⟩; rw [EP.out, hp])
    refine (spec_NameValid_any nm _ (by omega)).mono ?_
    rintro e w1 ⟨rfl, b1⟩
    have K1 := Lib.hid (K0.out.kept b1)
    have B1 := Lib.hid ((B0.out _).trans (b1.mono (by simp)))
    have a1 : w1.cell? ⟨w.heap.size, 1, none⟩ = some (.slice A qs.length c) := K1.out.cell 1
    clear b1
    cases h1 : nameOk nm
    · have E : Hid (adOk 3 qs nm p = false) := Lib.hid (by rw [adOk_3, h1]; simp)
      go_wp2_with fail
      go_ret
      exact ⟨ret_bool E.out.symm, B1.out⟩
    by_cases h2 : qs.length = 0
    · have E : Hid (adOk 3 qs nm p = true) := Lib.hid (by rw [adOk_3, h1, hp, decide_eq_true h2]; rfl)
      have h2' : ((qs.length : Int) == 0) = true := by rw [h2]; rfl
      clear h2
      go_wp2_with fail
      go_ret
      exact ⟨ret_bool E.out.symm, B1.out⟩
    · have E : Hid (adOk 3 qs nm p = false) := Lib.hid (by rw [adOk_3, decide_eq_false h2]; simp)
      have h2' : ((qs.length : Int) == 0) = false := beq_eq_false_iff_ne.2 (by omega)
      clear h2
      go_wp2_with fail
      go_ret
      exact ⟨ret_bool E.out.symm, B1.out⟩
  · have hk3' : (k == 3) = false := by simpa using hk3
    have E : Hid (adOk k qs nm p = false) := Lib.hid (adOk_other hk1 hk3 _ _ _)
    clear hk1 hk3
    go_enter Tryd.func32, Tryd.ntmps32
    go_wp2_with (go_at_call 34; refine (l6In_any _ _ _ _).mono ?_; rintro e w' ⟨rfl, rfl⟩; rw [EP.out, hp])
    go_ret
    exact ⟨ret_bool E.out.symm, B0.out _⟩
end Go.Proofs.YtpcflkdeoafpeaaDoor

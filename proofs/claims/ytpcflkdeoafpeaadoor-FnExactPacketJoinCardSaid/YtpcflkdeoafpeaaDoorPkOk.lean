/-
  isPacket of the program and l13Ok of the reference: whether a packet is valid. Conditions: the quad and the data read as lists of integers, the name has fewer than 2^32 - 15 bytes.
-/
import Derived.Test.YtpcflkdeoafpeaaDoorAdOk
import Derived.Test.YtpcflkdeoafpeaaDoorPk
namespace Go.Proofs.YtpcflkdeoafpeaaDoor
open Go.RowKit

set_option maxRecDepth 100000 in
set_option maxHeartbeats 2000000 in
theorem isPacket_any (f k : Int) (q : Value) (nm : ByteArray) (p : Int) (qs : List Int) (d : Value) (ds : List Int) (w : World) (hq : Ints w 0 q qs) (hd : Ints w 0 d ds) (hn : nm.size < 4294967281) :
    Calls Tryd.prog 21 #[.agg #[.int .i64 f, .int .i64 k, q, .string nm, .int .i64 p, d]] w fun e w' => e = .returned (.bool (pkOk f k qs nm p ds)) ∧ Below w.heap.size w w' := by
  have HQ := Lib.hid hq
  have HD := Lib.hid hd
  obtain ⟨A, c, rfl, hc, hm, _⟩ := hq.open_
  obtain ⟨A2, c2, rfl, hc2, hm2, _⟩ := hd.open_
  obtain ⟨V, hV⟩ : ∃ V, w.alloc (.cells #[.int .i64 f, .int .i64 k, .slice A qs.length c, .string nm, .int .i64 p, .slice A2 ds.length c2] 32) = V := ⟨_, rfl⟩
  have K : Hid (Blk V w.heap.size 32 #[.int .i64 f, .int .i64 k, .slice A qs.length c, .string nm, .int .i64 p, .slice A2 ds.length c2]) := Lib.hid (by rw [← hV]; exact Blk.new _ _ _)
  have B : Hid (Below w.heap.size w V) := Lib.hid (by rw [← hV]; exact (Below.refl _ _).alloc (Nat.le_refl _) _)
  have I : Hid (Ints V 0 (.slice A qs.length c) qs) := Lib.hid (by rw [← hV]; exact HQ.out.alloc _)
  have D : Hid (Ints V 0 (.slice A2 ds.length c2) ds) := Lib.hid (by rw [← hV]; exact HD.out.alloc _)
  have a0 : V.cell? ⟨w.heap.size, 0, none⟩ = some (.int .i64 f) := K.out.cell 0
  have a1 : V.cell? ⟨w.heap.size, 1, none⟩ = some (.int .i64 k) := K.out.cell 1
  have a2 : V.cell? ⟨w.heap.size, 2, none⟩ = some (.slice A qs.length c) := K.out.cell 2
  have a3 : V.cell? ⟨w.heap.size, 3, none⟩ = some (.string nm) := K.out.cell 3
  have a4 : V.cell? ⟨w.heap.size, 4, none⟩ = some (.int .i64 p) := K.out.cell 4
  clear hq hd
  cases h1 : inR f 0 255
  · have E : Hid (pkOk f k qs nm p ds = false) := Lib.hid (by rw [pkOk, fragOk, h1]; rfl)
    go_enter Tryd.func21, Tryd.ntmps21
    go_wp2_with (go_at_call 36; refine (within_any _ _ _ _).mono ?_; rintro e w' ⟨rfl, rfl⟩; rw [h1])
    go_ret
    exact ⟨ret_bool E.out.symm, B.out⟩
  by_cases h2 : f = 128
  · have E : Hid (pkOk f k qs nm p ds = false) := Lib.hid (by rw [pkOk, fragOk, decide_eq_true h2]; simp)
    subst h2
    go_enter Tryd.func21, Tryd.ntmps21
    go_wp2_with (go_at_call 36; refine (within_any _ _ _ _).mono ?_; rintro e w' ⟨rfl, rfl⟩; rw [h1])
    go_ret
    exact ⟨ret_bool E.out.symm, B.out⟩
  have E1 : Hid (pkOk f k qs nm p ds = (adOk k qs nm p && dataOk ds)) := Lib.hid (by rw [pkOk, fragOk, h1, decide_eq_false h2]; rfl)
  have h2' : (f != 128) = true := by simpa using h2
  clear h2
  go_enter Tryd.func21, Tryd.ntmps21
  go_wp2_with (go_at_call 36; refine (within_any _ _ _ _).mono ?_; rintro e w' ⟨rfl, rfl⟩; rw [h1])
  clear hV a0 a1 a2 a3 a4
  refine (impl_AddressValid_any k _ nm p qs _ I.out hn).mono ?_
  rintro e w1 ⟨rfl, b1⟩
  have K1 := Lib.hid (K.out.kept b1)
  have B1 := Lib.hid (B.out.trans (b1.mono B.out.size))
  have D1 := Lib.hid (D.out.below b1)
  have a5 : w1.cell? ⟨w.heap.size, 5, none⟩ = some (.slice A2 ds.length c2) := K1.out.cell 5
  clear b1 K B D I
  cases h3 : adOk k qs nm p
  · have E : Hid (pkOk f k qs nm p ds = false) := Lib.hid (by rw [E1.out, h3]; rfl)
    clear h3
    go_wp2_with fail
    go_ret
    exact ⟨ret_bool E.out.symm, B1.out⟩
  by_cases h4 : ds.length ≤ 40
  · have E : Hid (pkOk f k qs nm p ds = validL ds) := Lib.hid (by rw [E1.out, h3, dataOk, decide_eq_true h4]; rfl)
    have h4' : (ds.length : Int) ≤ 40 := by omega
    clear h3 h4 E1
    go_wp2_with (go_at_call 38; refine (impl_BytesValid_any _ ds _ D1.out).mono ?_; rintro e w' ⟨rfl, rfl⟩)
    go_ret
    exact ⟨ret_bool E.out.symm, B1.out⟩
  · have E : Hid (pkOk f k qs nm p ds = false) := Lib.hid (by rw [E1.out, h3, dataOk, decide_eq_false h4]; rfl)
    have h4' : ¬ (ds.length : Int) ≤ 40 := by omega
    clear h3 h4 E1
    go_wp2_with fail
    go_ret
    exact ⟨ret_bool E.out.symm, B1.out⟩

theorem frag_zero : fragOk 0 = true := by decide
theorem frag_other {f : Int} (h : f ≠ 0) : fragOk f = (inR (f.tmod 128) 1 127 && inR f 1 255) := by
  by_cases h0 : 0 < f
  · rw [Int.tmod_eq_emod_of_nonneg (by omega)]
    by_cases h1 : f ≤ 255
    · by_cases h2 : f = 128
      · subst h2; decide
      · have e1 : fragOk f = true := by simp [fragOk, inR]; omega
        have e2 : inR (f % 128) 1 127 = true := by simp [inR]; omega
        have e3 : inR f 1 255 = true := by simp [inR]; omega
        rw [e1, e2, e3]; rfl
    · have e1 : fragOk f = false := by simp [fragOk, inR]; omega
      have e3 : inR f 1 255 = false := by simp [inR]; omega
      rw [e1, e3, Bool.and_false]
  · have e1 : fragOk f = false := by simp [fragOk, inR]; omega
    have e3 : inR f 1 255 = false := by simp [inR]; omega
    rw [e1, e3, Bool.and_false]

set_option maxRecDepth 100000 in
set_option maxHeartbeats 2000000 in
theorem l13Ok_any (f k : Int) (q : Value) (nm : ByteArray) (p : Int) (qs : List Int) (d : Value) (ds : List Int) (w : World) (hq : Ints w 0 q qs) (hd : Ints w 0 d ds) (hn : nm.size < 4294967281) :
    Calls Tryd.prog 23 #[.agg #[.int .i64 f, .int .i64 k, q, .string nm, .int .i64 p, d]] w fun e w' => e = .returned (.bool (pkOk f k qs nm p ds)) ∧ Below w.heap.size w w' := by
  have HQ := Lib.hid hq
  have HD := Lib.hid hd
  obtain ⟨A, c, rfl, hc, hm, _⟩ := hq.open_
  obtain ⟨A2, c2, rfl, hc2, hm2, _⟩ := hd.open_
  obtain ⟨V, hV⟩ : ∃ V, w.alloc (.cells #[.int .i64 f, .int .i64 k, .slice A qs.length c, .string nm, .int .i64 p, .slice A2 ds.length c2] 32) = V := ⟨_, rfl⟩
  have K : Hid (Blk V w.heap.size 32 #[.int .i64 f, .int .i64 k, .slice A qs.length c, .string nm, .int .i64 p, .slice A2 ds.length c2]) := Lib.hid (by rw [← hV]; exact Blk.new _ _ _)
  have B : Hid (Below w.heap.size w V) := Lib.hid (by rw [← hV]; exact (Below.refl _ _).alloc (Nat.le_refl _) _)
  have I : Hid (Ints V 0 (.slice A qs.length c) qs) := Lib.hid (by rw [← hV]; exact HQ.out.alloc _)
  have D : Hid (Ints V 0 (.slice A2 ds.length c2) ds) := Lib.hid (by rw [← hV]; exact HD.out.alloc _)
  have a1 : V.cell? ⟨w.heap.size, 1, none⟩ = some (.int .i64 k) := K.out.cell 1
  have a2 : V.cell? ⟨w.heap.size, 2, none⟩ = some (.slice A qs.length c) := K.out.cell 2
  have a3 : V.cell? ⟨w.heap.size, 3, none⟩ = some (.string nm) := K.out.cell 3
  have a4 : V.cell? ⟨w.heap.size, 4, none⟩ = some (.int .i64 p) := K.out.cell 4
  clear hq hd
  go_enter Tryd.func23, Tryd.ntmps23
  go_wp2_with fail
  clear hV a1 a2 a3 a4
  refine (spec_AddressValid_any k _ nm p qs _ I.out hn).mono ?_
  rintro e w1 ⟨rfl, b1⟩
  have K1 := Lib.hid (K.out.kept b1)
  have B1 := Lib.hid (B.out.trans (b1.mono B.out.size))
  have D1 := Lib.hid (D.out.below b1)
  have a0 : w1.cell? ⟨w.heap.size, 0, none⟩ = some (.int .i64 f) := K1.out.cell 0
  have a5 : w1.cell? ⟨w.heap.size, 5, none⟩ = some (.slice A2 ds.length c2) := K1.out.cell 5
  clear b1 K B D I
  cases h3 : adOk k qs nm p
  · have E : Hid (pkOk f k qs nm p ds = false) := Lib.hid (by rw [pkOk, h3, Bool.and_false]; rfl)
    clear h3
    go_wp2_with fail
    go_ret
    exact ⟨ret_bool E.out.symm, B1.out⟩
  cases h5 : validL ds
  · have E : Hid (pkOk f k qs nm p ds = false) := Lib.hid (by rw [pkOk, dataOk, h5, Bool.and_false, Bool.and_false])
    clear h3
    go_wp2_with (go_at_call 33; refine (spec_BytesValid_any _ ds _ D1.out).mono ?_; rintro e w' ⟨rfl, rfl⟩; rw [h5])
    go_ret
    exact ⟨ret_bool E.out.symm, B1.out⟩
  by_cases h4 : ds.length ≤ 40
  case neg =>
    have E : Hid (pkOk f k qs nm p ds = false) := Lib.hid (by rw [pkOk, dataOk, decide_eq_false h4, Bool.false_and, Bool.and_false])
    have h4' : (40 : Int) < (ds.length : Int) := by omega
    clear h3 h4
    go_wp2_with (go_at_call 33; refine (spec_BytesValid_any _ ds _ D1.out).mono ?_; rintro e w' ⟨rfl, rfl⟩; rw [h5])
    go_ret
    exact ⟨ret_bool E.out.symm, B1.out⟩
  have h4' : ¬ (40 : Int) < (ds.length : Int) := by omega
  have E1 : Hid (pkOk f k qs nm p ds = fragOk f) := Lib.hid (by rw [pkOk, h3, dataOk, h5, decide_eq_true h4]; simp)
  clear h3 h4
  by_cases h0 : f = 0
  · subst h0
    have E : Hid (pkOk 0 k qs nm p ds = true) := Lib.hid (E1.out.trans frag_zero)
    go_wp2_with (go_at_call 33; refine (spec_BytesValid_any _ ds _ D1.out).mono ?_; rintro e w' ⟨rfl, rfl⟩; rw [h5])
    go_ret
    exact ⟨ret_bool E.out.symm, B1.out⟩
  have h0' : (f == 0) = false := by simpa using h0
  have E2 : Hid (pkOk f k qs nm p ds = (inR (f.tmod 128) 1 127 && inR f 1 255)) := Lib.hid (E1.out.trans (frag_other h0))
  clear h0 E1
  cases h6 : inR (f.tmod 128) 1 127
  · have E : Hid (pkOk f k qs nm p ds = false) := Lib.hid (by rw [E2.out, h6]; rfl)
    go_wp2_with (first | (go_at_call 33; refine (spec_BytesValid_any _ ds _ D1.out).mono ?_; rintro e w' ⟨rfl, rfl⟩; rw [h5]) | (go_at_call 34; refine (l6In_any _ _ _ _).mono ?_; rintro e w' ⟨rfl, rfl⟩; rw [h6]))
    go_ret
    exact ⟨ret_bool E.out.symm, B1.out⟩
  · have E : Hid (pkOk f k qs nm p ds = inR f 1 255) := Lib.hid (by rw [E2.out, h6]; rfl)
    go_wp2_with (first | (go_at_call 33; refine (spec_BytesValid_any _ ds _ D1.out).mono ?_; rintro e w' ⟨rfl, rfl⟩; rw [h5]) | (go_at_call 34; refine (l6In_any _ _ _ _).mono ?_; rintro e w' ⟨rfl, rfl⟩; (first | rw [h6] | skip)))
    go_ret
    exact ⟨ret_bool E.out.symm, B1.out⟩
end Go.Proofs.YtpcflkdeoafpeaaDoor

/-
  Pairs of addresses: PairValid of the program and of the reference, and the drawn pair. Conditions: the quads read as lists of integers, the names have fewer than 2^32 - 15 bytes.
-/
import Derived.Test.YtahlgdehfjjoeaaDoorDrawAd2
import Derived.Test.YtahlgdehfjjoeaaDoorAdOk
import Derived.Deep.RegionHeld3
namespace Go.Proofs.YtahlgdehfjjoeaaDoor
open Go.RowKit

/-- A valid pair. -/
def prOk (k1 : Int) (qs1 : List Int) (m1 : ByteArray) (p1 k2 : Int) (qs2 : List Int) (m2 : ByteArray) (p2 : Int) : Bool := adOk k1 qs1 m1 p1 && adOk k2 qs2 m2 p2 && decide (k1 = 1) && decide (k2 = 1)
def PrV (k1 : Int) (q1 : Value) (m1 : ByteArray) (p1 k2 : Int) (q2 : Value) (m2 : ByteArray) (p2 : Int) : Array Value := #[.int .i64 k1, q1, .string m1, .int .i64 p1, .int .i64 k2, q2, .string m2, .int .i64 p2]

set_option maxRecDepth 100000 in
set_option maxHeartbeats 2000000 in
theorem impl_PairValid_any (k1 : Int) (q1 : Value) (m1 : ByteArray) (p1 : Int) (qs1 : List Int) (k2 : Int) (q2 : Value) (m2 : ByteArray) (p2 : Int) (qs2 : List Int) (w : World) (h1 : Ints w 0 q1 qs1) (h2 : Ints w 0 q2 qs2) (n1 : m1.size < 4294967281) (n2 : m2.size < 4294967281) :
    Calls Tryd.prog 16 #[.agg #[.int .i64 k1, q1, .string m1, .int .i64 p1, .int .i64 k2, q2, .string m2, .int .i64 p2]] w fun e w' => e = .returned (.bool (prOk k1 qs1 m1 p1 k2 qs2 m2 p2)) ∧ Below w.heap.size w w' := by
  have H1 := Lib.hid h1
  have H2 := Lib.hid h2
  obtain ⟨A1, c1, rfl, _, _, _⟩ := h1.open_
  obtain ⟨A2, c2, rfl, _, _, _⟩ := h2.open_
  obtain ⟨V, hV⟩ : ∃ V, w.alloc (.cells #[.int .i64 k1, .slice A1 qs1.length c1, .string m1, .int .i64 p1, .int .i64 k2, .slice A2 qs2.length c2, .string m2, .int .i64 p2] 27) = V := ⟨_, rfl⟩
  have K : Hid (Blk V w.heap.size 27 #[.int .i64 k1, .slice A1 qs1.length c1, .string m1, .int .i64 p1, .int .i64 k2, .slice A2 qs2.length c2, .string m2, .int .i64 p2]) := Lib.hid (by rw [← hV]; exact Blk.new _ _ _)
  have B : Hid (Below w.heap.size w V) := Lib.hid (by rw [← hV]; exact (Below.refl _ _).alloc (Nat.le_refl _) _)
  have I1 : Hid (Ints V 0 (.slice A1 qs1.length c1) qs1) := Lib.hid (by rw [← hV]; exact H1.out.alloc _)
  have I2 : Hid (Ints V 0 (.slice A2 qs2.length c2) qs2) := Lib.hid (by rw [← hV]; exact H2.out.alloc _)
  have a0 : V.cell? ⟨w.heap.size, 0, none⟩ = some (.int .i64 k1) := K.out.cell 0
  have a1 : V.cell? ⟨w.heap.size, 1, none⟩ = some (.slice A1 qs1.length c1) := K.out.cell 1
  have a2 : V.cell? ⟨w.heap.size, 2, none⟩ = some (.string m1) := K.out.cell 2
  have a3 : V.cell? ⟨w.heap.size, 3, none⟩ = some (.int .i64 p1) := K.out.cell 3
  clear h1 h2
  go_enter Tryd.func16, Tryd.ntmps16
  go_wp2_with fail
  clear hV a0 a1 a2 a3
  refine (impl_AddressValid_any k1 _ m1 p1 qs1 _ I1.out n1).mono ?_
  rintro e w1 ⟨rfl, b1⟩
  have K1 := Lib.hid (K.out.kept b1)
  have B1 := Lib.hid (B.out.trans (b1.mono B.out.size))
  have I21 := Lib.hid (I2.out.below b1)
  have a0 : w1.cell? ⟨w.heap.size, 0, none⟩ = some (.int .i64 k1) := K1.out.cell 0
  have a4 : w1.cell? ⟨w.heap.size, 4, none⟩ = some (.int .i64 k2) := K1.out.cell 4
  have a5 : w1.cell? ⟨w.heap.size, 5, none⟩ = some (.slice A2 qs2.length c2) := K1.out.cell 5
  have a6 : w1.cell? ⟨w.heap.size, 6, none⟩ = some (.string m2) := K1.out.cell 6
  have a7 : w1.cell? ⟨w.heap.size, 7, none⟩ = some (.int .i64 p2) := K1.out.cell 7
  clear b1 K B I1 I2
  cases ho1 : adOk k1 qs1 m1 p1
  · have E : Hid (prOk k1 qs1 m1 p1 k2 qs2 m2 p2 = false) := Lib.hid (by rw [prOk, ho1]; rfl)
    clear ho1
    go_wp2_with fail
    go_ret
    exact ⟨ret_bool E.out.symm, B1.out⟩
  have E1 : Hid (prOk k1 qs1 m1 p1 k2 qs2 m2 p2 = (adOk k2 qs2 m2 p2 && decide (k1 = 1) && decide (k2 = 1))) := Lib.hid (by rw [prOk, ho1]; rfl)
  clear ho1
  go_wp2_with fail
  refine (impl_AddressValid_any k2 _ m2 p2 qs2 _ I21.out n2).mono ?_
  rintro e w2 ⟨rfl, b2⟩
  have K2 := Lib.hid (K1.out.kept b2)
  have B2 := Lib.hid (B1.out.trans (b2.mono B1.out.size))
  clear b2 K1 B1 I21 a0 a4 a5 a6 a7
  have a0 : w2.cell? ⟨w.heap.size, 0, none⟩ = some (.int .i64 k1) := K2.out.cell 0
  have a4 : w2.cell? ⟨w.heap.size, 4, none⟩ = some (.int .i64 k2) := K2.out.cell 4
  cases ho2 : adOk k2 qs2 m2 p2
  · have E : Hid (prOk k1 qs1 m1 p1 k2 qs2 m2 p2 = false) := Lib.hid (by rw [E1.out, ho2]; rfl)
    clear ho2
    go_wp2_with fail
    go_ret
    exact ⟨ret_bool E.out.symm, B2.out⟩
  have E2 : Hid (prOk k1 qs1 m1 p1 k2 qs2 m2 p2 = (decide (k1 = 1) && decide (k2 = 1))) := Lib.hid (by rw [E1.out, ho2]; rfl)
  clear ho2 E1
  by_cases hk1 : k1 = 1
  case neg =>
    have E : Hid (prOk k1 qs1 m1 p1 k2 qs2 m2 p2 = false) := Lib.hid (by rw [E2.out, decide_eq_false hk1]; rfl)
    have hk1' : (k1 == 1) = false := by simpa using hk1
    clear hk1
    go_wp2_with fail
    go_ret
    exact ⟨ret_bool E.out.symm, B2.out⟩
  have hk1' : (k1 == 1) = true := by simpa using hk1
  by_cases hk2 : k2 = 1
  · have E : Hid (prOk k1 qs1 m1 p1 k2 qs2 m2 p2 = true) := Lib.hid (by rw [E2.out, decide_eq_true hk1, decide_eq_true hk2]; rfl)
    have hk2' : (k2 == 1) = true := by simpa using hk2
    clear hk1 hk2
    go_wp2_with fail
    go_ret
    exact ⟨ret_bool E.out.symm, B2.out⟩
  · have E : Hid (prOk k1 qs1 m1 p1 k2 qs2 m2 p2 = false) := Lib.hid (by rw [E2.out, decide_eq_true hk1, decide_eq_false hk2]; rfl)
    have hk2' : (k2 == 1) = false := by simpa using hk2
    clear hk1 hk2
    go_wp2_with fail
    go_ret
    exact ⟨ret_bool E.out.symm, B2.out⟩

set_option maxRecDepth 100000 in
set_option maxHeartbeats 2000000 in
theorem spec_PairValid_any (k1 : Int) (q1 : Value) (m1 : ByteArray) (p1 : Int) (qs1 : List Int) (k2 : Int) (q2 : Value) (m2 : ByteArray) (p2 : Int) (qs2 : List Int) (w : World) (h1 : Ints w 0 q1 qs1) (h2 : Ints w 0 q2 qs2) (n1 : m1.size < 4294967281) (n2 : m2.size < 4294967281) :
    Calls Tryd.prog 17 #[.agg #[.int .i64 k1, q1, .string m1, .int .i64 p1, .int .i64 k2, q2, .string m2, .int .i64 p2]] w fun e w' => e = .returned (.bool (prOk k1 qs1 m1 p1 k2 qs2 m2 p2)) ∧ Below w.heap.size w w' := by
  have H1 := Lib.hid h1
  have H2 := Lib.hid h2
  obtain ⟨A1, c1, rfl, _, _, _⟩ := h1.open_
  obtain ⟨A2, c2, rfl, _, _, _⟩ := h2.open_
  obtain ⟨V, hV⟩ : ∃ V, w.alloc (.cells #[.int .i64 k1, .slice A1 qs1.length c1, .string m1, .int .i64 p1, .int .i64 k2, .slice A2 qs2.length c2, .string m2, .int .i64 p2] 27) = V := ⟨_, rfl⟩
  have K : Hid (Blk V w.heap.size 27 #[.int .i64 k1, .slice A1 qs1.length c1, .string m1, .int .i64 p1, .int .i64 k2, .slice A2 qs2.length c2, .string m2, .int .i64 p2]) := Lib.hid (by rw [← hV]; exact Blk.new _ _ _)
  have B : Hid (Below w.heap.size w V) := Lib.hid (by rw [← hV]; exact (Below.refl _ _).alloc (Nat.le_refl _) _)
  have I1 : Hid (Ints V 0 (.slice A1 qs1.length c1) qs1) := Lib.hid (by rw [← hV]; exact H1.out.alloc _)
  have I2 : Hid (Ints V 0 (.slice A2 qs2.length c2) qs2) := Lib.hid (by rw [← hV]; exact H2.out.alloc _)
  have a0 : V.cell? ⟨w.heap.size, 0, none⟩ = some (.int .i64 k1) := K.out.cell 0
  have a1 : V.cell? ⟨w.heap.size, 1, none⟩ = some (.slice A1 qs1.length c1) := K.out.cell 1
  have a2 : V.cell? ⟨w.heap.size, 2, none⟩ = some (.string m1) := K.out.cell 2
  have a3 : V.cell? ⟨w.heap.size, 3, none⟩ = some (.int .i64 p1) := K.out.cell 3
  clear h1 h2
  go_enter Tryd.func17, Tryd.ntmps17
  go_wp2_with fail
  clear hV a0 a1 a2 a3
  refine (spec_AddressValid_any k1 _ m1 p1 qs1 _ I1.out n1).mono ?_
  rintro e w1 ⟨rfl, b1⟩
  have K1 := Lib.hid (K.out.kept b1)
  have B1 := Lib.hid (B.out.trans (b1.mono B.out.size))
  have I21 := Lib.hid (I2.out.below b1)
  have a0 : w1.cell? ⟨w.heap.size, 0, none⟩ = some (.int .i64 k1) := K1.out.cell 0
  have a4 : w1.cell? ⟨w.heap.size, 4, none⟩ = some (.int .i64 k2) := K1.out.cell 4
  have a5 : w1.cell? ⟨w.heap.size, 5, none⟩ = some (.slice A2 qs2.length c2) := K1.out.cell 5
  have a6 : w1.cell? ⟨w.heap.size, 6, none⟩ = some (.string m2) := K1.out.cell 6
  have a7 : w1.cell? ⟨w.heap.size, 7, none⟩ = some (.int .i64 p2) := K1.out.cell 7
  clear b1 K B I1 I2
  cases ho1 : adOk k1 qs1 m1 p1
  · have E : Hid (prOk k1 qs1 m1 p1 k2 qs2 m2 p2 = false) := Lib.hid (by rw [prOk, ho1]; rfl)
    clear ho1
    go_wp2_with fail
    go_ret
    exact ⟨ret_bool E.out.symm, B1.out⟩
  have E1 : Hid (prOk k1 qs1 m1 p1 k2 qs2 m2 p2 = (adOk k2 qs2 m2 p2 && decide (k1 = 1) && decide (k2 = 1))) := Lib.hid (by rw [prOk, ho1]; rfl)
  clear ho1
  go_wp2_with fail
  refine (spec_AddressValid_any k2 _ m2 p2 qs2 _ I21.out n2).mono ?_
  rintro e w2 ⟨rfl, b2⟩
  have K2 := Lib.hid (K1.out.kept b2)
  have B2 := Lib.hid (B1.out.trans (b2.mono B1.out.size))
  clear b2 K1 B1 I21 a0 a4 a5 a6 a7
  have a0 : w2.cell? ⟨w.heap.size, 0, none⟩ = some (.int .i64 k1) := K2.out.cell 0
  have a4 : w2.cell? ⟨w.heap.size, 4, none⟩ = some (.int .i64 k2) := K2.out.cell 4
  cases ho2 : adOk k2 qs2 m2 p2
  · have E : Hid (prOk k1 qs1 m1 p1 k2 qs2 m2 p2 = false) := Lib.hid (by rw [E1.out, ho2]; rfl)
    clear ho2
    go_wp2_with fail
    go_ret
    exact ⟨ret_bool E.out.symm, B2.out⟩
  have E2 : Hid (prOk k1 qs1 m1 p1 k2 qs2 m2 p2 = (decide (k1 = 1) && decide (k2 = 1))) := Lib.hid (by rw [E1.out, ho2]; rfl)
  clear ho2 E1
  by_cases hk1 : k1 = 1
  case neg =>
    have E : Hid (prOk k1 qs1 m1 p1 k2 qs2 m2 p2 = false) := Lib.hid (by rw [E2.out, decide_eq_false hk1]; rfl)
    have hk1' : (k1 == 1) = false := by simpa using hk1
    clear hk1
    go_wp2_with fail
    go_ret
    exact ⟨ret_bool E.out.symm, B2.out⟩
  have hk1' : (k1 == 1) = true := by simpa using hk1
  by_cases hk2 : k2 = 1
  · have E : Hid (prOk k1 qs1 m1 p1 k2 qs2 m2 p2 = true) := Lib.hid (by rw [E2.out, decide_eq_true hk1, decide_eq_true hk2]; rfl)
    have hk2' : (k2 == 1) = true := by simpa using hk2
    clear hk1 hk2
    go_wp2_with fail
    go_ret
    exact ⟨ret_bool E.out.symm, B2.out⟩
  · have E : Hid (prOk k1 qs1 m1 p1 k2 qs2 m2 p2 = false) := Lib.hid (by rw [E2.out, decide_eq_true hk1, decide_eq_false hk2]; rfl)
    have hk2' : (k2 == 1) = false := by simpa using hk2
    clear hk1 hk2
    go_wp2_with fail
    go_ret
    exact ⟨ret_bool E.out.symm, B2.out⟩
end Go.Proofs.YtahlgdehfjjoeaaDoor

/-
  Numbers of two bytes: numberBytes and number of the program, l1Number and l1Of of the reference. Conditions: the number is in the range of two bytes; the bytes are bytes.
-/
import Derived.Test.YtpcflkdeoafpeaaDoorPk
import Derived.Test.YtpcflkdeoafpeaaDoorLits
import Derived.Test.YtpcflkdeoafpeaaDoorPick
namespace Go.Proofs.YtpcflkdeoafpeaaDoor
open Go.RowKit

theorem i64_and_nat (a b : Nat) (ha : a < 9223372036854775808) (hb : b < 9223372036854775808) : bits .and .i64 (a : Int) (b : Int) = ((a &&& b : Nat) : Int) := by
  have hx : a &&& b ≤ a := Nat.and_le_left
  show IntKind.i64.wrap ((BitVec.ofInt 64 (a : Int) &&& BitVec.ofInt 64 (b : Int)).toNat : Int) = _
  rw [BitVec.toNat_and, ofInt_i64 a ha, ofInt_i64 b hb, IntKind.wrap_i64]
  omega
theorem i64_or_nat (a b : Nat) (ha : a < 4611686018427387904) (hb : b < 4611686018427387904) : bits .or .i64 (a : Int) (b : Int) = ((a ||| b : Nat) : Int) := by
  have hx : a ||| b < 2 ^ 62 := Nat.or_lt_two_pow (by omega) (by omega)
  show IntKind.i64.wrap ((BitVec.ofInt 64 (a : Int) ||| BitVec.ofInt 64 (b : Int)).toNat : Int) = _
  rw [BitVec.toNat_or, ofInt_i64 a (by omega), ofInt_i64 b (by omega), IntKind.wrap_i64]
  omega
theorem or_zero_ {a : Int} (h0 : 0 ≤ a) (h1 : a ≤ 255) : bits .or .i64 0 a = a := by
  obtain ⟨x, rfl⟩ : ∃ x : Nat, a = x := ⟨a.toNat, by omega⟩
  have h := i64_or_nat 0 x (by omega) (by omega)
  rw [Nat.zero_or] at h
  exact h
theorem or_byte {a b : Int} (h0 : 0 ≤ a) (h1 : a ≤ 255) (g0 : 0 ≤ b) (g1 : b ≤ 255) : bits .or .i64 (a * 256) b = 256 * a + b := by
  obtain ⟨x, rfl⟩ : ∃ x : Nat, a = x := ⟨a.toNat, by omega⟩
  obtain ⟨y, rfl⟩ : ∃ y : Nat, b = y := ⟨b.toNat, by omega⟩
  have h := i64_or_nat (256 * x) y (by omega) (by omega)
  have e : 256 * x ||| y = 256 * x + y := (Nat.two_pow_add_eq_or_of_lt (i := 8) (by omega : y < 2 ^ 8) x).symm
  rw [e] at h
  rw [show (x : Int) * 256 = ((256 * x : Nat) : Int) by rw [Int.natCast_mul, Int.mul_comm]; rfl, h]
  rw [Int.natCast_add, Int.natCast_mul]
  rfl
theorem and_255 {x : Int} (h0 : 0 ≤ x) (h1 : x ≤ 65535) : bits .and .i64 x 255 = x % 256 := by
  obtain ⟨a, rfl⟩ : ∃ a : Nat, x = a := ⟨x.toNat, by omega⟩
  have h := i64_and_nat a 255 (by omega) (by omega)
  have e : a &&& 255 = a % 256 := Nat.and_two_pow_sub_one_eq_mod a 8
  rw [e] at h
  rw [show ((255 : Nat) : Int) = 255 from rfl] at h
  rw [h]
  omega
theorem num2_hi {n : Int} (h0 : 0 ≤ n) (h1 : n ≤ 65535) : bits .and .i64 (n / 256) 255 = (num2 n).getD 0 0 := by
  rw [and_255 (by omega) (by omega)]
  simp [num2]
  omega
theorem num2_lo {n : Int} (h0 : 0 ≤ n) (h1 : n ≤ 65535) : bits .and .i64 n 255 = (num2 n).getD 1 0 := by
  rw [and_255 (by omega) (by omega)]
  rfl

theorem getD_one {a b : Int} : ([a, b] : List Int).getD 1 0 = b := rfl
end Go.Proofs.YtpcflkdeoafpeaaDoor

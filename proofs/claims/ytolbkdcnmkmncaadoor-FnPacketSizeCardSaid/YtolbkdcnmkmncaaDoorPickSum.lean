/-
  The sum that the reference's reader makes behind the end of its code, and its rest by n. Conditions: bounds on its parts. Plain arithmetic, no program.
-/
import Derived.WalkKit
import Derived.Laws.BitsAllLaws
import Derived.Laws.BitsLemmas
import Derived.IntWalk
namespace Go.Proofs.YtolbkdcnmkmncaaDoor
open Go.RowKit

def PickOk (n x : Int) : Prop := 0 ≤ x ∧ (x < n ∨ x = 0)

theorem ofInt_i64 (a : Nat) (ha : a < 9223372036854775808) : (BitVec.ofInt 64 (a : Int)).toNat = a := by
  rw [BitVec.ofInt_natCast, BitVec.toNat_ofNat]; exact Nat.mod_eq_of_lt (by omega)
theorem i64_xor_nat (a b : Nat) (ha : a < 9223372036854775808) (hb : b < 9223372036854775808) : bits .xor .i64 (a : Int) (b : Int) = ((a ^^^ b : Nat) : Int) := by
  have hx : a ^^^ b < 2 ^ 63 := Nat.xor_lt_two_pow (by omega) (by omega)
  show IntKind.i64.wrap ((BitVec.ofInt 64 (a : Int) ^^^ BitVec.ofInt 64 (b : Int)).toNat : Int) = _
  rw [BitVec.toNat_xor, ofInt_i64 a ha, ofInt_i64 b hb, IntKind.wrap_i64]
  omega

theorem pickOk_mod {x : Int} (n : Int) (_h0 : 0 ≤ x) (h : 1 ≤ n) : PickOk n (x % n) := ⟨Int.emod_nonneg _ (by omega), .inl (Int.emod_lt_of_pos _ (by omega))⟩

theorem pick_xor (x : Nat) (n : Int) (hxb : x ≤ 1000000000) (hn : 1 ≤ n) : PickOk n ((bits BinOp.xor IntKind.i64 (wrap64 (x : Int)) (wrap64 ((wrap64 (x : Int)).tdiv 64))).tmod n) := by
  have w3 : wrap64 (x : Int) = x := IntWalk.wrap64_in _ (by omega)
  rw [w3]
  have hd : (x : Int).tdiv 64 = ((x / 64 : Nat) : Int) := by rw [Int.tdiv_eq_ediv_of_nonneg (Int.natCast_nonneg _)]; simp
  rw [hd]
  have hq : x / 64 ≤ x := Nat.div_le_self _ _
  obtain ⟨y, hy⟩ : ∃ y, x / 64 = y := ⟨_, rfl⟩
  rw [hy] at hq ⊢
  have w4 : wrap64 (y : Int) = y := IntWalk.wrap64_in _ (by omega)
  rw [w4]
  rw [i64_xor_nat x y (by omega) (by omega)]
  rw [Int.tmod_eq_emod_of_nonneg (Int.natCast_nonneg _)]
  exact pickOk_mod n (Int.natCast_nonneg _) hn

theorem pick_fin {y z n : Int} {p L : Nat} (hy0 : 0 ≤ y) (hy1 : y ≤ 255) (hz0 : 0 ≤ z) (hz1 : z ≤ 255) (hp : p ≤ 1048576) (hn : 1 ≤ n) :
    PickOk n ((bits BinOp.xor IntKind.i64 (wrap64 (y * 131 + z * 1117 + (p : Int) * 29 + wrap64 (wrap64 ((p : Int) / (L : Int)) * 53))) (wrap64 ((wrap64 (y * 131 + z * 1117 + (p : Int) * 29 + wrap64 (wrap64 ((p : Int) / (L : Int)) * 53))).tdiv 64))).tmod n) := by
  have hs : ∃ x : Nat, y * 131 + z * 1117 + (p : Int) * 29 + wrap64 (wrap64 ((p : Int) / (L : Int)) * 53) = (x : Int) ∧ x ≤ 1000000000 := by
    obtain ⟨q, hq⟩ : ∃ q : Nat, p / L = q := ⟨_, rfl⟩
    have hq1 : q ≤ p := by rw [← hq]; exact Nat.div_le_self _ _
    have hqi : (p : Int) / (L : Int) = (q : Int) := by rw [← hq]; simp
    rw [hqi]
    have w1 : wrap64 (q : Int) = q := IntWalk.wrap64_in _ (by omega)
    rw [w1]
    have w2 : wrap64 ((q : Int) * 53) = (q : Int) * 53 := IntWalk.wrap64_in _ (by omega)
    rw [w2]
    exact ⟨(y * 131 + z * 1117 + (p : Int) * 29 + (q : Int) * 53).toNat, by omega, by omega⟩
  obtain ⟨x, hx, hb⟩ := hs
  rw [hx]
  exact pick_xor x n hb hn
end Go.Proofs.YtolbkdcnmkmncaaDoor

/-
  Numbers of two bytes: numberBytes and number of the program, l1Number and l1Of of the reference. Conditions: the number is in the range of two bytes; the bytes are bytes.
-/
import Derived.Test.YtolbkdcnmkmncaaDoorPk
import Derived.Test.YtolbkdcnmkmncaaDoorLits
import Derived.Test.YtolbkdcnmkmncaaDoorPick
namespace Go.Proofs.YtolbkdcnmkmncaaDoor
open Go.RowKit

theorem i64_and_nat (a b : Nat) (ha : a < 9223372036854775808) (hb : b < 9223372036854775808) : bits .and .i64 (a : Int) (b : Int) = ((a &&& b : Nat) : Int) := by
  have hx : a &&& b ≤ a := Nat.and_le_left
  show IntKind.i64.wrap ((BitVec.ofInt 64 (a : Int) &&& BitVec.ofInt 64 (b : Int)).toNat : Int) = _
  rw [BitVec.toNat_and, ofInt_i64 a ha, ofInt_i64 b hb, IntKind.wrap_i64]
  omega
theorem i64_or_nat (a b : Nat) (ha : a < 4611686018427387904) (hb : b < 4611686018427387904) : bits .or .i64 (a : Int) (b : Int) = ((a ||| b : Nat) : Int) := by
  have hx : a ||| b < 2 ^ 62 := Nat.or_lt_two_pow (by omega) (by omega)
  show IntKind.i64.wrap ((BitVec.ofInt 64 (a : Int) ||| BitVec.ofInt 64 (b : Int)).toNat : Int) = _
  rw [BitVec.toNat_or, ofInt_i64 a (by omega), ofInt_i64 b (by omega), IntKind.wrap_i64]
  omega
theorem or_zero_ {a : Int} (h0 : 0 ≤ a) (h1 : a ≤ 255) : bits .or .i64 0 a = a := by
  obtain ⟨x, rfl⟩ : ∃ x : Nat, a = x := ⟨a.toNat, by omega⟩
  have h := i64_or_nat 0 x (by omega) (by omega)
  rw [Nat.zero_or] at h
  exact h
theorem or_byte {a b : Int} (h0 : 0 ≤ a) (h1 : a ≤ 255) (g0 : 0 ≤ b) (g1 : b ≤ 255) : bits .or .i64 (a * 256) b = 256 * a + b := by
  obtain ⟨x, rfl⟩ : ∃ x : Nat, a = x := ⟨a.toNat, by omega⟩
  obtain ⟨y, rfl⟩ : ∃ y : Nat, b = y := ⟨b.toNat, by omega⟩
  have h := i64_or_nat (256 * x) y (by omega) (by omega)
  have e : 256 * x ||| y = 256 * x + y := (Nat.two_pow_add_eq_or_of_lt (i := 8) (by omega : y < 2 ^ 8) x).symm
  rw [e] at h
  rw [show (x : Int) * 256 = ((256 * x : Nat) : Int) by rw [Int.natCast_mul, Int.mul_comm]; rfl, h]
  rw [Int.natCast_add, Int.natCast_mul]
  rfl
theorem and_255 {x : Int} (h0 : 0 ≤ x) (h1 : x ≤ 65535) : bits .and .i64 x 255 = x % 256 := by
  obtain ⟨a, rfl⟩ : ∃ a : Nat, x = a := ⟨x.toNat, by omega⟩
  have h := i64_and_nat a 255 (by omega) (by omega)
  have e : a &&& 255 = a % 256 := Nat.and_two_pow_sub_one_eq_mod a 8
  rw [e] at h
  rw [show ((255 : Nat) : Int) = 255 from rfl] at h
  rw [h]
  omega
theorem num2_hi {n : Int} (h0 : 0 ≤ n) (h1 : n ≤ 65535) : bits .and .i64 (n / 256) 255 = (num2 n).getD 0 0 := by
  rw [and_255 (by omega) (by omega)]
  simp [num2]
  omega
theorem num2_lo {n : Int} (h0 : 0 ≤ n) (h1 : n ≤ 65535) : bits .and .i64 n 255 = (num2 n).getD 1 0 := by
  rw [and_255 (by omega) (by omega)]
  rfl

set_option maxRecDepth 100000 in
set_option maxHeartbeats 1000000 in
theorem numberBytes_any (n : Int) (w : World) (h0 : 0 ≤ n) (h1 : n ≤ 65535) :
    Calls Tryd.prog 98 #[.int .i64 n, .int .i64 2] w fun e w' => ∃ v, e = .returned v ∧ Own w' w.heap.size v (num2 n) ∧ Below w.heap.size w w' := by
  have hmk : ∀ u : World, (Instr.makeSlice 23 (.int .i64 2) (.int .i64 2)).run Tryd.prog u = .ok (.slice (some ⟨u.heap.size, 0, none⟩) 2 2) (u.alloc (.cells (iv (List.replicate 2 0)).toArray 3)) := mk_ints 2 (by omega)
  have HL : Hid ((num2 n).length = 2) := Lib.hid rfl
  go_enter Tryd.func98, Tryd.ntmps98
  go_wp2
  go_loopw [11] (fun i wr => ∃ k : Nat, k ≤ 2 ∧ i = .int .i64 k ∧ Hid (Own wr w.heap.size (.slice (some ⟨w.heap.size, 0, none⟩) 2 2) (fillTo (num2 n) k)) ∧ Hid (Below w.heap.size w wr)) (fun i _ => 2 - (intOf i).toNat)
  case atStart =>
    refine ⟨0, Nat.zero_le _, rfl, Lib.hid ?_, Lib.hid ((Below.refl _ _).alloc (Nat.le_refl _) _)⟩
    have h := Own.lit w (List.replicate 2 0) w.heap.size (Nat.le_refl _) (by simp)
    rw [fillTo_zero, HL.out]
    simpa using h
  case round =>
    obtain ⟨k, hk, rfl, HO, HB⟩ := hrel
    have HF : Hid ((fillTo (num2 n) k).length = 2) := Lib.hid (by rw [fillTo_length (by rw [HL.out]; exact hk), HL.out])
    by_cases hlt : k < 2
    · have cc := HO.out.cell (j := k) (by rw [HF.out]; exact hlt)
      have ff := HO.out.frozen k
      obtain ⟨y, hy⟩ : ∃ y, (fillTo (num2 n) k).getD k 0 = y := ⟨_, rfl⟩
      rw [hy] at cc
      clear hy
      have h2 := HO.out.store_ (j := k) HF.out ((num2 n).getD k 0)
      rw [fillTo_step (by rw [HL.out]; exact hlt)] at h2
      have HO2 := Lib.hid h2
      have HB2 := Lib.hid (HB.out.setCell (p := ⟨w.heap.size, k, none⟩) (Nat.le_refl _) (.int .i64 ((num2 n).getD k 0)))
      clear h2
      have hk01 : k = 0 ∨ k = 1 := by omega
      rcases hk01 with rfl | rfl
      · have e0 := Lib.hid (num2_hi h0 h1)
        go_wp2
        rw [e0.out]
        exact ⟨⟨1, by omega, rfl, HO2, HB2⟩, by decide⟩
      · have e0 := Lib.hid (num2_lo h0 h1)
        go_wp2
        rw [e0.out]
        exact ⟨⟨2, by omega, rfl, HO2, HB2⟩, by decide⟩
    · have hk2 : k = 2 := by omega
      subst hk2
      have HO2 : Hid (Own wr w.heap.size (.slice (some ⟨w.heap.size, 0, none⟩) 2 2) (num2 n)) := Lib.hid (by
        have h := HO.out
        rwa [fillTo_all (by rw [HL.out]; omega)] at h)
      go_wp2
      go_ret
      exact ⟨_, rfl, HO2.out, HB.out⟩

set_option maxRecDepth 100000 in
set_option maxHeartbeats 1000000 in
theorem l1Number_any (n : Int) (w : World) (h0 : 0 ≤ n) (h1 : n ≤ 65535) :
    Calls Tryd.prog 101 #[.int .i64 n, .int .i64 2] w fun e w' => ∃ v, e = .returned v ∧ Own w' w.heap.size v (num2 n) ∧ Below w.heap.size w w' := by
  have hmk : ∀ u : World, (Instr.makeSlice 23 (.int .i64 2) (.int .i64 2)).run Tryd.prog u = .ok (.slice (some ⟨u.heap.size, 0, none⟩) 2 2) (u.alloc (.cells (iv (List.replicate 2 0)).toArray 3)) := mk_ints 2 (by omega)
  have HL : Hid ((num2 n).length = 2) := Lib.hid rfl
  go_enter Tryd.func101, Tryd.ntmps101
  go_wp2
  go_loopw [0, 6] (fun m i wr => ∃ k : Nat, k ≤ 2 ∧ i = .int .i64 ((k : Int) - 1) ∧ (k = 2 → m = .int .i64 n) ∧ (k = 1 → m = .int .i64 (n / 256)) ∧ (k = 0 → m = .int .i64 (n / 256 / 256)) ∧ Hid (Own wr w.heap.size (.slice (some ⟨w.heap.size, 0, none⟩) 2 2) (fillFrom (num2 n) k)) ∧ Hid (Below w.heap.size w wr)) (fun _ i _ => (intOf i + 1).toNat)
  case atStart =>
    refine ⟨2, Nat.le_refl _, rfl, fun _ => rfl, (fun h => absurd h (by decide)), (fun h => absurd h (by decide)), Lib.hid ?_, Lib.hid ((Below.refl _ _).alloc (Nat.le_refl _) _)⟩
    have h := Own.lit w (List.replicate 2 0) w.heap.size (Nat.le_refl _) (by simp)
    have e : fillFrom (num2 n) 2 = List.replicate 2 0 := by simp [fillFrom, num2]
    rw [e]
    simpa using h
  case round =>
    obtain ⟨k, hk, rfl, m2, m1, m0, HO, HB⟩ := hrel
    have hk01 : k = 0 ∨ k = 1 ∨ k = 2 := by omega
    rcases hk01 with rfl | rfl | rfl
    · have HO2 : Hid (Own wr w.heap.size (.slice (some ⟨w.heap.size, 0, none⟩) 2 2) (num2 n)) := Lib.hid (by
        have h := HO.out
        rwa [fillFrom_zero] at h)
      obtain rfl := m0 rfl
      clear m2 m1 m0
      go_wp2
      go_ret
      exact ⟨_, rfl, HO2.out, HB.out⟩
    · obtain rfl := m1 rfl
      have HF : Hid ((fillFrom (num2 n) 1).length = 2) := Lib.hid (by rw [fillFrom_length (by rw [HL.out]; omega), HL.out])
      have cc := HO.out.cell (j := 0) (by rw [HF.out]; omega)
      have ff := HO.out.frozen 0
      obtain ⟨y, hy⟩ : ∃ y, (fillFrom (num2 n) 1).getD 0 0 = y := ⟨_, rfl⟩
      rw [hy] at cc
      clear hy
      have h2 := HO.out.store_ (j := 0) HF.out ((num2 n).getD 0 0)
      rw [fillFrom_step (j := 0) (by rw [HL.out]; omega)] at h2
      have HO2 := Lib.hid h2
      have HB2 := Lib.hid (HB.out.setCell (p := ⟨w.heap.size, 0, none⟩) (Nat.le_refl _) (.int .i64 ((num2 n).getD 0 0)))
      have e0 : Hid (n / 256 % 256 = (num2 n).getD 0 0) := Lib.hid (by simp [num2]; omega)
      have g0 : 0 ≤ n / 256 := by omega
      have g1 : n / 256 ≤ 255 := by omega
      clear h2 m2 m1 m0
      go_wp2
      rw [e0.out]
      exact ⟨⟨0, by omega, rfl, (fun h => absurd h (by decide)), (fun h => absurd h (by decide)), fun _ => rfl, HO2, HB2⟩, by decide⟩
    · obtain rfl := m2 rfl
      have HF : Hid ((fillFrom (num2 n) 2).length = 2) := Lib.hid (by rw [fillFrom_length (by rw [HL.out]; omega), HL.out])
      have cc := HO.out.cell (j := 1) (by rw [HF.out]; omega)
      have ff := HO.out.frozen 1
      obtain ⟨y, hy⟩ : ∃ y, (fillFrom (num2 n) 2).getD 1 0 = y := ⟨_, rfl⟩
      rw [hy] at cc
      clear hy
      have h2 := HO.out.store_ (j := 1) HF.out ((num2 n).getD 1 0)
      rw [fillFrom_step (j := 1) (by rw [HL.out]; omega)] at h2
      have HO2 := Lib.hid h2
      have HB2 := Lib.hid (HB.out.setCell (p := ⟨w.heap.size, 1, none⟩) (Nat.le_refl _) (.int .i64 ((num2 n).getD 1 0)))
      have e0 : Hid (n % 256 = (num2 n).getD 1 0) := Lib.hid rfl
      clear h2 m2 m1 m0
      go_wp2
      rw [e0.out]
      exact ⟨⟨1, by omega, rfl, (fun h => absurd h (by decide)), fun _ => rfl, (fun h => absurd h (by decide)), HO2, HB2⟩, by decide⟩

theorem getD_one {a b : Int} : ([a, b] : List Int).getD 1 0 = b := rfl
set_option maxRecDepth 100000 in
set_option maxHeartbeats 1000000 in
theorem number_any (v : Value) (a b : Int) (w : World) (hv : Ints w 0 v [a, b]) (ha : 0 ≤ a ∧ a ≤ 255) (hb : 0 ≤ b ∧ b ≤ 255) :
    Calls Tryd.prog 117 #[v] w fun e w' => e = .returned (.int .i64 (256 * a + b)) ∧ w = w' := by
  obtain ⟨ha0, ha1⟩ := ha
  obtain ⟨hb0, hb1⟩ := hb
  obtain ⟨A, c, rfl, hc, hm, hA⟩ := hv.open_
  obtain ⟨g, o, rfl, _, _, hs⟩ := hA.resolve_left (by simp)
  have c0 := hs.int_at (j := 0) (by simp)
  have c1 := hs.int_at (j := 1) (by simp)
  simp only [List.getD_cons_zero, getD_one, Nat.add_zero] at c0 c1
  simp only [List.length_cons, List.length_nil, Nat.zero_add, Nat.reduceAdd] at hc ⊢
  clear hs hA hv
  go_enter Tryd.func117, Tryd.ntmps117
  go_wp2
  go_loop [3, 8] (fun m i => ∃ k : Nat, k ≤ 2 ∧ i = .int .i64 k ∧ (k = 0 → m = .int .i64 0) ∧ (k = 1 → m = .int .i64 a) ∧ (k = 2 → m = .int .i64 (256 * a + b))) (fun _ i => 2 - (intOf i).toNat)
  case atStart => exact ⟨0, Nat.zero_le _, rfl, fun _ => rfl, (fun h => absurd h (by decide)), (fun h => absurd h (by decide))⟩
  case round =>
    obtain ⟨k, hk, rfl, m0, m1, m2⟩ := hrel
    have hk01 : k = 0 ∨ k = 1 ∨ k = 2 := by omega
    rcases hk01 with rfl | rfl | rfl
    · obtain rfl := m0 rfl
      clear m0 m1 m2
      have e0 := Lib.hid (or_zero_ ha0 ha1)
      go_wp2
      rw [e0.out]
      exact ⟨⟨1, by omega, rfl, (fun h => absurd h (by decide)), fun _ => rfl, (fun h => absurd h (by decide))⟩, by decide⟩
    · obtain rfl := m1 rfl
      clear m0 m1 m2
      have e0 := Lib.hid (or_byte ha0 ha1 hb0 hb1)
      go_wp2
      rw [e0.out]
      exact ⟨⟨2, by omega, rfl, (fun h => absurd h (by decide)), (fun h => absurd h (by decide)), fun _ => rfl⟩, by decide⟩
    · obtain rfl := m2 rfl
      clear m0 m1 m2
      go_wp2
      go_ret
      exact ⟨rfl, rfl⟩

set_option maxRecDepth 100000 in
set_option maxHeartbeats 1000000 in
theorem l1Of_any (v : Value) (a b : Int) (w : World) (hv : Ints w 0 v [a, b]) (ha : 0 ≤ a ∧ a ≤ 255) (hb : 0 ≤ b ∧ b ≤ 255) :
    Calls Tryd.prog 103 #[v] w fun e w' => e = .returned (.int .i64 (256 * a + b)) ∧ w = w' := by
  obtain ⟨ha0, ha1⟩ := ha
  obtain ⟨hb0, hb1⟩ := hb
  obtain ⟨A, c, rfl, hc, hm, hA⟩ := hv.open_
  obtain ⟨g, o, rfl, _, _, hs⟩ := hA.resolve_left (by simp)
  have c0 := hs.int_at (j := 0) (by simp)
  have c1 := hs.int_at (j := 1) (by simp)
  simp only [List.getD_cons_zero, getD_one, Nat.add_zero] at c0 c1
  simp only [List.length_cons, List.length_nil, Nat.zero_add, Nat.reduceAdd] at hc ⊢
  clear hs hA hv
  go_enter Tryd.func103, Tryd.ntmps103
  go_wp2
  go_loop [3, 4] (fun m i => ∃ k : Nat, k ≤ 2 ∧ i = .int .i64 k ∧ (k = 0 → m = .int .i64 0) ∧ (k = 1 → m = .int .i64 a) ∧ (k = 2 → m = .int .i64 (256 * a + b))) (fun _ i => 2 - (intOf i).toNat)
  case atStart => exact ⟨0, Nat.zero_le _, rfl, fun _ => rfl, (fun h => absurd h (by decide)), (fun h => absurd h (by decide))⟩
  case round =>
    obtain ⟨k, hk, rfl, m0, m1, m2⟩ := hrel
    have hk01 : k = 0 ∨ k = 1 ∨ k = 2 := by omega
    rcases hk01 with rfl | rfl | rfl
    · obtain rfl := m0 rfl
      clear m0 m1 m2
      go_wp2
      exact ⟨⟨1, by omega, rfl, (fun h => absurd h (by decide)), fun _ => rfl, (fun h => absurd h (by decide))⟩, by decide⟩
    · obtain rfl := m1 rfl
      clear m0 m1 m2
      go_wp2
      exact ⟨⟨2, by omega, rfl, (fun h => absurd h (by decide)), (fun h => absurd h (by decide)), fun _ => rfl⟩, by decide⟩
    · obtain rfl := m2 rfl
      clear m0 m1 m2
      go_wp2
      go_ret
      exact ⟨rfl, rfl⟩
end Go.Proofs.YtolbkdcnmkmncaaDoor

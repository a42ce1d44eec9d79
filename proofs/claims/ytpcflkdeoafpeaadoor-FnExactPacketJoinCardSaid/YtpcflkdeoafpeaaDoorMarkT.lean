/-
  The laws' own markText: a text for a number. Conditions: the number is not negative and below 2^40.
-/
import Derived.Test.YtpcflkdeoafpeaaDoorTexts
namespace Go.Proofs.YtpcflkdeoafpeaaDoor
open Go.RowKit

/-- A number's digits ahead of a text; f rounds at most. -/
def mLoop : Nat → Nat → ByteArray → ByteArray
  | 0, _, out => out
  | f + 1, n, out => if n = 0 then out else mLoop f (n / 10) (strOfNums [48 + ((n % 10 : Nat) : Int)] ++ out)
def mText (k : Int) : ByteArray := if k ≤ 0 then ⟨#[109, 48]⟩ else ⟨#[109]⟩ ++ mLoop (k.toNat + 1) k.toNat ⟨#[]⟩
theorem mLoop_more {f m r t : Nat} {out : ByteArray} (hm : m ≠ 0) (hr : m % 10 = r) (ht : m / 10 = t) : mLoop (f + 1) m out = mLoop f t (strOfNums [48 + (r : Int)] ++ out) := by
  rw [mLoop, if_neg hm, hr, ht]
theorem mLoop_done {f m : Nat} {out : ByteArray} (hm : m = 0) : mLoop f m out = out := by
  subst hm
  cases f <;> rfl
set_option maxRecDepth 100000 in
set_option maxHeartbeats 1000000 in
theorem markText_any (k : Int) (w : World) (h0 : 0 ≤ k) (h1 : k ≤ 1099511627776) :
    Calls Tryd.prog 28 #[.int .i64 k] w fun e w' => e = .returned (.string (mText k)) ∧ Below w.heap.size w w' := by
  by_cases hk : k ≤ 0
  · have E : Hid (mText k = ⟨#[109, 48]⟩) := Lib.hid (if_pos hk)
    go_enter Tryd.func28, Tryd.ntmps28
    go_wp2_with fail
    go_ret
    exact ⟨by rw [E.out]; rfl, Below.refl _ _⟩
  obtain ⟨K, rfl⟩ : ∃ K : Nat, k = K := ⟨k.toNat, by omega⟩
  have E : Hid (mText (K : Int) = ⟨#[109]⟩ ++ mLoop (K + 1) K ⟨#[]⟩) := Lib.hid (if_neg hk)
  go_enter Tryd.func28, Tryd.ntmps28
  go_wp2_with fail
  go_loopw [0, 3] (fun n s wr => ∃ (f m : Nat) (out : ByteArray), m < f ∧ n = .int .i64 (m : Int) ∧ s = .string out ∧ out.size + m ≤ K ∧ Hid (mLoop f m out = mLoop (K + 1) K ⟨#[]⟩) ∧ Hid (Below w.heap.size w wr)) (fun n _ _ => (intOf n).toNat)
  case atStart => exact ⟨K + 1, K, ⟨#[]⟩, by omega, rfl, rfl, (by show 0 + K ≤ K; omega), Lib.hid rfl, Lib.hid (Below.refl _ _)⟩
  case round =>
    obtain ⟨f, m, out, hf, rfl, rfl, hs, HM, HB⟩ := hrel
    by_cases hm : 0 < m
    · have hm' : (0 : Int) < (m : Int) := by omega
      obtain ⟨f, rfl⟩ : ∃ f', f = f' + 1 := ⟨f - 1, by omega⟩
      obtain ⟨r, hr⟩ : ∃ r, m % 10 = r := ⟨_, rfl⟩
      obtain ⟨t, ht⟩ : ∃ t, m / 10 = t := ⟨_, rfl⟩
      have HN := Lib.hid ((mLoop_more (f := f) (out := out) (by omega) hr ht).symm.trans HM.out)
      have hr9 : r ≤ 9 := by omega
      have htm : t < m := by omega
      have hr' : (m : Int).tmod 10 = (r : Int) := by rw [← hr]; rfl
      have ht' : (m : Int).tdiv 10 = (t : Int) := by rw [← ht]; rfl
      have hw1 : IntKind.i64.wrap (48 + (r : Int)) = 48 + (r : Int) := IntWalk.i64_in _ (by omega)
      have hu1 : IntKind.u8.wrap (48 + (r : Int)) = 48 + (r : Int) := IntWalk.u8_in _ (by omega)
      have hr2 : (m : Int) % 10 = (r : Int) := by rw [← hr]; rfl
      have ht2 : (m : Int) / 10 = (t : Int) := by rw [← ht]; rfl
      have hcv : (convert 22 9 (.slice (some ⟨wr.heap.size, 0, none⟩) 1 1)).run Tryd.prog (wr.alloc (.cells #[.int .u8 (48 + (r : Int))] 5)) = .ok (.string (strOfNums [48 + (r : Int)])) (wr.alloc (.cells #[.int .u8 (48 + (r : Int))] 5)) := str_of_row (c := 1) (Seg.new wr 5 (uv [48 + (r : Int)])) rfl
      obtain ⟨S, hS⟩ : ∃ S, strOfNums [48 + (r : Int)] = S := ⟨_, rfl⟩
      have hS1 : S.size = 1 := by rw [← hS]; rfl
      rw [hS] at hcv HN
      have hcat : S.size + out.size ≤ 9223372036854775807 := by omega
      have HB2 := Lib.hid (HB.out.alloc HB.out.size (.cells #[.int .u8 (48 + (r : Int))] 5))
      clear hr ht hS HM HB
      go_wp2_with fail
      go_roundw
      case rel => exact ⟨f, t, S ++ out, by omega, by first | rfl | simp, by first | rfl | simp, by rw [ByteArray.size_append]; omega, HN, HB2⟩
      case measure => simp [intOf]; omega
    · have hm' : ¬ (0 : Int) < (m : Int) := by omega
      have HN : Hid (mLoop (K + 1) K ⟨#[]⟩ = out) := Lib.hid (HM.out.symm.trans (mLoop_done (by omega)))
      have hcat : (⟨#[109]⟩ : ByteArray).size + out.size ≤ 9223372036854775807 := by
        have : (⟨#[109]⟩ : ByteArray).size = 1 := rfl
        omega
      clear HM
      go_wp2_with fail
      go_ret
      exact ⟨by rw [E.out, HN.out]; rfl, HB.out⟩
end Go.Proofs.YtpcflkdeoafpeaaDoor

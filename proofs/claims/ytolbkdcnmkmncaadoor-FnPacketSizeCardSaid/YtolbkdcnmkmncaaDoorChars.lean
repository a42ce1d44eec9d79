/-
  Single letters, and whether a text is made of them: the program's isLetter, isDigit, consists, the library's IndexByte and the reference's l2Letter return plain functions. Conditions: none but that strings are strings of the model.
-/
import Derived.Test.YtolbkdcnmkmncaaDoorStr
import Derived.Lib.Bytealg
import Derived.Laws.StandIn
import Derived.Deep.RegionWith
namespace Go.Proofs.YtolbkdcnmkmncaaDoor
open Go.RowKit

def isL (x : Int) : Bool := decide (97 ≤ x) && decide (x ≤ 122)
def isD (x : Int) : Bool := decide (48 ≤ x) && decide (x ≤ 57)
theorem wordB_eq (f : List Int) (x : Int) : wordB f x = (isL x || isD x || decide (x ∈ f)) := rfl

theorem isLetter_any (x : Int) (w : World) : Calls Tryd.prog 115 #[.int .u8 x] w fun e w' => e = .returned (.bool (isL x)) ∧ w = w' := by
  by_cases h1 : 97 ≤ x
  · go_enter Tryd.func115, Tryd.ntmps115
    go_wp2
    go_ret
    exact ⟨ret_bool (by simp [isL, h1]), rfl⟩
  · go_enter Tryd.func115, Tryd.ntmps115
    go_wp2
    go_ret
    exact ⟨ret_bool (by simp [isL]; omega), rfl⟩
theorem isDigit_any (x : Int) (w : World) : Calls Tryd.prog 122 #[.int .u8 x] w fun e w' => e = .returned (.bool (isD x)) ∧ w = w' := by
  by_cases h1 : 48 ≤ x
  · go_enter Tryd.func122, Tryd.ntmps122
    go_wp2
    go_ret
    exact ⟨ret_bool (by simp [isD, h1]), rfl⟩
  · go_enter Tryd.func122, Tryd.ntmps122
    go_wp2
    go_ret
    exact ⟨ret_bool (by simp [isD]; omega), rfl⟩

set_option maxRecDepth 100000 in
theorem stringslite_IndexByte_any (s : ByteArray) (c : Int) (w : World) : Calls Tryd.prog 127 #[.string s, .int .u8 c] w fun e w' => e = .returned (.int .i64 (Lib.indexByte s.data.toList c.toNat.toUInt8)) ∧ w = w' := by
  go_enter Tryd.func127, Tryd.ntmps127
  go_wp2
  rw [run_callFunc_extern Tryd.func132 (by kernel_rfl) (by kernel_rfl) (by kernel_rfl) (e := Extern.BytealgIndexByte.indexByte) (by kernel_rfl), Lib.run_indexByteString]
  simp only [Result.andThen]
  rw [Oper.upon_value]
  go_wp2
  go_ret
  exact ⟨rfl, rfl⟩
theorem IndexByte_any (s : ByteArray) (c : Int) (w : World) : Calls Tryd.prog 123 #[.string s, .int .u8 c] w fun e w' => e = .returned (.int .i64 (Lib.indexByte s.data.toList c.toNat.toUInt8)) ∧ w = w' := by
  go_enter Tryd.func123, Tryd.ntmps123
  go_wp2_with fail
  refine (stringslite_IndexByte_any _ _ _).mono ?_
  rintro e w' ⟨rfl, rfl⟩
  go_wp2_with fail
  go_ret
  exact ⟨rfl, rfl⟩
theorem indexByte_iff : ∀ (l : List UInt8) (c : UInt8), decide (Lib.indexByte l c < 0) = !decide (c ∈ l)
  | [], c => by simp [Lib.indexByte]
  | b :: l, c => by
    have ih := indexByte_iff l c
    have hg := Lib.indexByte_ge l c
    unfold Lib.indexByte
    by_cases h : b = c
    · subst h
      simp
    · have h2 : ¬ c = b := fun e => h e.symm
      have h3 : (b == c) = false := by simpa using h
      have h6 : decide (c ∈ b :: l) = decide (c ∈ l) := by rw [decide_eq_decide, List.mem_cons]; simp [h2]
      rw [h3, h6, ← ih]
      simp only [Bool.false_eq_true, if_false]
      by_cases h4 : Lib.indexByte l c = -1
      · rw [h4]; rfl
      · have h5 : (Lib.indexByte l c == -1) = false := by simpa using h4
        rw [h5]
        simp only [Bool.false_eq_true, if_false]
        rw [decide_eq_decide]
        omega
/-- The index that strings.IndexByte returns. -/
def idxI (f : ByteArray) (x : Int) : Int := Lib.indexByte f.data.toList x.toNat.toUInt8
theorem idxI_iff {f : ByteArray} {x : Int} (h : 0 ≤ x ∧ x ≤ 255) : decide (idxI f x < 0) = !decide (x ∈ numsOf f) := by
  unfold idxI
  rw [indexByte_iff]
  congr 1
  rw [decide_eq_decide]
  unfold numsOf
  rw [List.mem_map]
  constructor
  · intro hm
    refine ⟨_, hm, ?_⟩
    simp
    omega
  · rintro ⟨c, hc, rfl⟩
    simpa using hc

set_option maxHeartbeats 1000000 in
theorem consists_any (s f : ByteArray) (w : World) (hs : s.size ≤ maxLen) : Calls Tryd.prog 114 #[.string s, .string f] w fun e w' => e = .returned (.bool (wordL (numsOf f) s)) ∧ w = w' := by
  unfold maxLen at hs
  go_enter Tryd.func114, Tryd.ntmps114
  go_wp2_with fail
  go_loop [8] (fun i => ∃ k : Nat, k ≤ s.size ∧ i = .int .i64 k ∧ Hid (wordTo (numsOf f) s k = true)) (fun i => s.size - (intOf i).toNat)
  case atStart => exact ⟨0, Nat.zero_le _, rfl, Lib.hid (wordTo_zero _ _)⟩
  case round =>
    obtain ⟨k, hk, rfl, HT⟩ := hrel
    by_cases hlt : k < s.size
    · have hi : (k : Int) < (s.size : Int) := by omega
      have hr : 0 ≤ (s[k].toNat : Int) ∧ (s[k].toNat : Int) ≤ 255 := by have := s[k].toNat_lt; omega
      have hix := idxI_iff (f := f) hr
      have hw := wordB_eq (numsOf f) (s[k].toNat : Int)
      have hnum := numsOf_get hlt
      cases h1 : isL (s[k].toNat : Int)
      · cases h2 : isD (s[k].toNat : Int)
        · cases h3 : decide ((s[k].toNat : Int) ∈ numsOf f)
          · have HS : Hid (wordL (numsOf f) s = false) := Lib.hid (wordL_not hlt (by rw [hnum, hw, h1, h2, h3]; rfl))
            have hneg : idxI f (s[k].toNat : Int) < 0 := by rw [h3] at hix; simpa using hix
            clear hix hw hnum h3 hr
            go_wp2_with (first | (go_at_call 115; refine (isLetter_any _ _).mono ?_; rintro e w' ⟨rfl, rfl⟩) | (go_at_call 122; refine (isDigit_any _ _).mono ?_; rintro e w' ⟨rfl, rfl⟩) | (go_at_call 123; refine (IndexByte_any f (s[k].toNat : Int) _).mono ?_; rintro e w' ⟨rfl, rfl⟩; rw [← idxI]))
            go_ret
            exact ⟨ret_bool HS.out.symm, rfl⟩
          · have HS : Hid (wordTo (numsOf f) s (k + 1) = true) := Lib.hid (wordTo_succ HT.out (by rw [hnum, hw, h1, h2, h3]; rfl))
            have hneg : 0 ≤ idxI f (s[k].toNat : Int) := by rw [h3] at hix; simpa using hix
            clear hix hw hnum h3 hr
            go_wp2_with (first | (go_at_call 115; refine (isLetter_any _ _).mono ?_; rintro e w' ⟨rfl, rfl⟩) | (go_at_call 122; refine (isDigit_any _ _).mono ?_; rintro e w' ⟨rfl, rfl⟩) | (go_at_call 123; refine (IndexByte_any f (s[k].toNat : Int) _).mono ?_; rintro e w' ⟨rfl, rfl⟩; rw [← idxI]))
            go_round
            case rel => exact ⟨k + 1, by omega, by go_num, HS⟩
            case measure => simp [intOf]; omega
        · have HS : Hid (wordTo (numsOf f) s (k + 1) = true) := Lib.hid (wordTo_succ HT.out (by rw [hnum, hw, h1, h2]; rfl))
          clear hix hw hnum hr
          go_wp2_with (first | (go_at_call 115; refine (isLetter_any _ _).mono ?_; rintro e w' ⟨rfl, rfl⟩) | (go_at_call 122; refine (isDigit_any _ _).mono ?_; rintro e w' ⟨rfl, rfl⟩))
          go_round
          case rel => exact ⟨k + 1, by omega, by go_num, HS⟩
          case measure => simp [intOf]; omega
      · have HS : Hid (wordTo (numsOf f) s (k + 1) = true) := Lib.hid (wordTo_succ HT.out (by rw [hnum, hw, h1]; rfl))
        clear hix hw hnum hr
        go_wp2_with (go_at_call 115; refine (isLetter_any _ _).mono ?_; rintro e w' ⟨rfl, rfl⟩)
        go_round
        case rel => exact ⟨k + 1, by omega, by go_num, HS⟩
        case measure => simp [intOf]; omega
    · have HS : Hid (wordL (numsOf f) s = true) := Lib.hid (wordL_of (by omega) hk HT.out)
      go_wp2_with fail
      go_ret
      exact ⟨ret_bool HS.out.symm, rfl⟩

/-- A letter that may stand in a part of a name. -/
def l2L (x : Int) : Bool := isL x || isD x || decide (x = 45)
theorem l2Letter_any (x : Int) (w : World) : Calls Tryd.prog 120 #[.int .u8 x] w fun e w' => e = .returned (.bool (l2L x)) ∧ w = w' := by
  by_cases h1 : 97 ≤ x
  · by_cases h2 : x ≤ 122
    · go_enter Tryd.func120, Tryd.ntmps120
      go_wp2
      go_ret
      exact ⟨ret_bool (by simp [l2L, isL, h1, h2]), rfl⟩
    · have h3 : ¬ x ≤ 57 := by omega
      have h4 : 48 ≤ x := by omega
      have h5 : (x == 45) = false := by simp; omega
      go_enter Tryd.func120, Tryd.ntmps120
      go_wp2
      go_ret
      exact ⟨ret_bool (by simp [l2L, isL, isD]; omega), rfl⟩
  · by_cases h4 : 48 ≤ x
    · by_cases h3 : x ≤ 57
      · go_enter Tryd.func120, Tryd.ntmps120
        go_wp2
        go_ret
        exact ⟨ret_bool (by simp [l2L, isD, h3, h4]), rfl⟩
      · have h5 : (x == 45) = false := by simp; omega
        go_enter Tryd.func120, Tryd.ntmps120
        go_wp2
        go_ret
        exact ⟨ret_bool (by simp [l2L, isL, isD]; omega), rfl⟩
    · by_cases h5 : x = 45
      · subst h5
        go_enter Tryd.func120, Tryd.ntmps120
        go_wp2
        go_ret
        exact ⟨rfl, rfl⟩
      · have h6 : (x == 45) = false := by simpa using h5
        go_enter Tryd.func120, Tryd.ntmps120
        go_wp2
        go_ret
        exact ⟨ret_bool (by simp [l2L, isL, isD]; omega), rfl⟩
end Go.Proofs.YtolbkdcnmkmncaaDoor

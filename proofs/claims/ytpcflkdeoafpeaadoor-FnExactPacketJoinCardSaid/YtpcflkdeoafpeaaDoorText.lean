/-
  The program's reader at one told byte and at a text: plain laws, no walk. Conditions: none.
  The program's reader of bytes, its byte and expect: plain functions of the bytes, the place and whether it has failed. Conditions: at most 1000 bytes are expected.
  The program's reader reads a text: a plain function of the bytes and the place. Conditions: none.
  The program's reader beside stores into other blocks; the length of a text that it reads. Conditions: none.
-/
import Derived.Test.YtpcflkdeoafpeaaDoorStr
import Derived.Test.YtpcflkdeoafpeaaDoorReader
import Derived.Test.YtpcflkdeoafpeaaDoorTexts
import Derived.Test.YtpcflkdeoafpeaaDoorBlk
namespace Go.Proofs.YtpcflkdeoafpeaaDoor
open Go.RowKit

theorem drop0_take1 {zs : List Int} (h : 1 ≤ zs.length) : (zs.drop 0).take 1 = [zs.getD 0 0] := by
  cases zs with
  | nil => simp at h
  | cons x r => simp
/-- The reader behind its first byte. -/
theorem told1 {zs : List Int} (c : Int) (hv : validL zs = true) (hl : 1 ≤ zs.length) (h0 : zs.getD 0 0 = c) : rTold zs (rStart zs) [c] = (1, false) := by
  have hs : rStart zs = (0, false) := by simp [rStart, hv]
  rw [hs]
  exact rTold_good (by simpa using hl) (by rw [List.length_singleton, drop0_take1 hl, h0])
theorem told1_not {zs : List Int} (c : Int) (h : (validL zs && decide (1 ≤ zs.length) && decide (zs.getD 0 0 = c)) = false) : (rTold zs (rStart zs) [c]).2 = true := by
  cases hv : validL zs
  · have hs : rStart zs = (0, true) := by simp [rStart, hv]
    rw [hs, rTold_bad]
  · have hs : rStart zs = (0, false) := by simp [rStart, hv]
    rw [hs]
    by_cases hl : 1 ≤ zs.length
    · rw [rTold_other (by simpa using hl) (by
        rw [List.length_singleton, drop0_take1 hl]
        intro he
        injection he with he
        rw [hv, he] at h
        simp [hl] at h)]
    · rw [rTold_long (by rw [List.length_singleton]; omega)]
theorem pair_eta (s : Nat × Bool) : s = (s.1, s.2) := rfl
theorem rNext_after_bad {zs : List Int} {s : Nat × Bool} (h : s.2 = true) (n : Nat) : (rNext zs s n).2 = true := by
  obtain ⟨p, b⟩ := s
  simp only at h
  subst h
  rw [rNext_bad]
def rTextN (zs : List Int) (s : Nat × Bool) : Nat × Bool := rNext zs (rNext zs s 1) (rByte zs s).toNat
def rText (zs : List Int) (s : Nat × Bool) : List Int := rGot zs (rNext zs s 1) (rByte zs s).toNat
theorem rTextN_bad {zs : List Int} {s : Nat × Bool} (h : s.2 = true) : (rTextN zs s).2 = true := rNext_after_bad (rNext_after_bad h _) _
theorem rTextN_good {zs : List Int} {p : Nat} (h : p + 1 + (zs.getD p 0).toNat ≤ zs.length) : rTextN zs (p, false) = (p + 1 + (zs.getD p 0).toNat, false) ∧ rText zs (p, false) = (zs.drop (p + 1)).take (zs.getD p 0).toNat := by
  have h1 : p + 1 ≤ zs.length := by omega
  constructor
  · rw [rTextN, rNext_good h1, rByte_good h1, rNext_good h]
  · rw [rText, rNext_good h1, rByte_good h1, rGot_good h]
theorem rTextN_long {zs : List Int} {p : Nat} (h : zs.length < p + 1 + (zs.getD p 0).toNat) : (rTextN zs (p, false)).2 = true := by
  by_cases h1 : p + 1 ≤ zs.length
  · rw [rTextN, rNext_good h1, rByte_good h1, rNext_long h]
  · exact rNext_after_bad (by rw [rNext_long (by omega)]) _
end Go.Proofs.YtpcflkdeoafpeaaDoor
namespace Go.Proofs.YtpcflkdeoafpeaaDoor
open Go.RowKit

end Go.Proofs.YtpcflkdeoafpeaaDoor
namespace Go.Proofs.YtpcflkdeoafpeaaDoor
open Go.RowKit

end Go.Proofs.YtpcflkdeoafpeaaDoor
namespace Go.Proofs.YtpcflkdeoafpeaaDoor
open Go.RowKit

theorem str_len {zs : List Int} {n : Nat} (h : zs.length ≤ n) : (strOfNums zs).size ≤ n := by rw [str_length]; exact h
theorem rText_len (zs : List Int) (s : Nat × Bool) (hf : RFit zs s) : (rText zs s).length ≤ 255 := by
  rw [rText, rGot_length]
  have := (rByte_range hf).2
  omega
end Go.Proofs.YtpcflkdeoafpeaaDoor

/-
  What the program's reader finds in the bytes of a hello, of a pick and of a login: plain laws, no walk. Conditions: none.
-/
import Derived.Test.YticlgmdmkomdbaaStr
import Derived.Test.YticlgmdmkomdbaaHello
namespace Go.Proofs.Yticlgmdmkomdbaa
open Go.RowKit

/-! a pick -/
def pfOk (zs : List Int) : Bool := validL zs && decide (2 ≤ zs.length) && decide (zs.getD 0 0 = 5)
theorem drop0_take1 {zs : List Int} (h : 1 ≤ zs.length) : (zs.drop 0).take 1 = [zs.getD 0 0] := by
  cases zs with
  | nil => simp at h
  | cons x r => simp
/-- The reader behind its first byte. -/
theorem told1 {zs : List Int} (c : Int) (hv : validL zs = true) (hl : 1 ≤ zs.length) (h0 : zs.getD 0 0 = c) : rTold zs (rStart zs) [c] = (1, false) := by
  have hs : rStart zs = (0, false) := by simp [rStart, hv]
  rw [hs]
  exact rTold_good (by simpa using hl) (by rw [List.length_singleton, drop0_take1 hl, h0])
theorem told1_not {zs : List Int} (c : Int) (h : (validL zs && decide (1 ≤ zs.length) && decide (zs.getD 0 0 = c)) = false) : (rTold zs (rStart zs) [c]).2 = true := by
  cases hv : validL zs
  · have hs : rStart zs = (0, true) := by simp [rStart, hv]
    rw [hs, rTold_bad]
  · have hs : rStart zs = (0, false) := by simp [rStart, hv]
    rw [hs]
    by_cases hl : 1 ≤ zs.length
    · rw [rTold_other (by simpa using hl) (by
        rw [List.length_singleton, drop0_take1 hl]
        intro he
        injection he with he
        rw [hv, he] at h
        simp [hl] at h)]
    · rw [rTold_long (by rw [List.length_singleton]; omega)]
theorem pair_eta (s : Nat × Bool) : s = (s.1, s.2) := rfl
theorem rNext_after_bad {zs : List Int} {s : Nat × Bool} (h : s.2 = true) (n : Nat) : (rNext zs s n).2 = true := by
  obtain ⟨p, b⟩ := s
  simp only at h
  subst h
  rw [rNext_bad]
theorem pf_state {zs : List Int} (h : pfOk zs = true) : rTold zs (rStart zs) [5] = (1, false) ∧ rNext zs (1, false) 1 = (2, false) ∧ rByte zs (1, false) = zs.getD 1 0 := by
  simp [pfOk] at h
  obtain ⟨⟨hv, hl⟩, h0⟩ := h
  exact ⟨told1 5 hv (by omega) (by simpa using h0), rNext_good (by omega), rByte_good (by omega)⟩
theorem pf_bad (zs : List Int) : (rNext zs (rTold zs (rStart zs) [5]) 1).2 = !pfOk zs := by
  cases h : pfOk zs
  · by_cases h1 : (validL zs && decide (1 ≤ zs.length) && decide (zs.getD 0 0 = 5)) = true
    · simp only [Bool.and_eq_true, decide_eq_true_eq] at h1
      obtain ⟨⟨hv, hl⟩, h0⟩ := h1
      rw [told1 5 hv hl h0]
      have hl2 : zs.length < 1 + 1 := by
        rcases Nat.lt_or_ge zs.length 2 with h2 | h2
        · omega
        · have h0' : zs[0]?.getD 0 = 5 := by simpa using h0
          simp [pfOk, hv, h0', h2] at h
      rw [rNext_long hl2]
      rfl
    · rw [rNext_after_bad (told1_not 5 (by simpa using h1))]
      rfl
  · obtain ⟨h1, h2, _⟩ := pf_state h
    rw [h1, h2]
    rfl

/-! a hello -/
def hfL (zs : List Int) : List Int := (zs.drop 2).take (zs.getD 1 0).toNat
def hfOk (zs : List Int) : Bool := pfOk zs && decide (2 + (zs.getD 1 0).toNat ≤ zs.length) && methodsOk (hfL zs)
/-- What the program's reader has when it has read the methods. -/
def hfS (zs : List Int) : Nat × Bool := rNext zs (rTold zs (rStart zs) [5]) 1
def hfN (zs : List Int) : Int := rByte zs (rTold zs (rStart zs) [5])
def hfG (zs : List Int) : List Int := rGot zs (hfS zs) (hfN zs).toNat
def hfE (zs : List Int) : Nat × Bool := rNext zs (hfS zs) (hfN zs).toNat
theorem hf_state {zs : List Int} (h : hfOk zs = true) : hfG zs = hfL zs ∧ hfE zs = (2 + (zs.getD 1 0).toNat, false) := by
  simp only [hfOk, Bool.and_eq_true, decide_eq_true_eq] at h
  obtain ⟨⟨h1, h2⟩, _⟩ := h
  obtain ⟨e1, e2, e3⟩ := pf_state h1
  have eN : hfN zs = zs.getD 1 0 := by rw [hfN, e1, e3]
  have eS : hfS zs = (2, false) := by rw [hfS, e1, e2]
  constructor
  · rw [hfG, eN, eS, rGot_good h2, hfL]
  · rw [hfE, eN, eS, rNext_good h2]
theorem hf_ok (zs : List Int) : (!(hfE zs).2 && methodsOk (hfG zs)) = hfOk zs := by
  cases hp : pfOk zs
  · have e : (hfS zs).2 = true := by rw [hfS, pf_bad, hp]; rfl
    have e2 : (hfE zs).2 = true := by rw [hfE]; exact rNext_after_bad e _
    rw [e2, hfOk, hp]
    rfl
  · obtain ⟨e1, e2, e3⟩ := pf_state hp
    have eN : hfN zs = zs.getD 1 0 := by rw [hfN, e1, e3]
    have eS : hfS zs = (2, false) := by rw [hfS, e1, e2]
    by_cases h2 : 2 + (zs.getD 1 0).toNat ≤ zs.length
    · have eG : hfG zs = hfL zs := by rw [hfG, eN, eS, rGot_good h2, hfL]
      have eE : hfE zs = (2 + (zs.getD 1 0).toNat, false) := by rw [hfE, eN, eS, rNext_good h2]
      rw [eG, eE, hfOk, hp, decide_eq_true h2]
      rfl
    · have eE : (hfE zs).2 = true := by rw [hfE, eN, eS, rNext_long (by omega)]
      rw [eE, hfOk, hp, decide_eq_false h2]
      rfl
theorem hfOk_three {zs : List Int} (h : hfOk zs = true) : 3 ≤ zs.length ∧ (hfL zs).length = (zs.getD 1 0).toNat ∧ 0 ≤ zs.getD 1 0 := by
  simp only [hfOk, Bool.and_eq_true, decide_eq_true_eq] at h
  obtain ⟨⟨h1, h2⟩, h3⟩ := h
  have hl : (hfL zs).length = (zs.getD 1 0).toNat := by
    unfold hfL
    rw [List.length_take, List.length_drop]
    omega
  have hm := methodsOk_len h3
  omega

/-! a login -/
def rTextN (zs : List Int) (s : Nat × Bool) : Nat × Bool := rNext zs (rNext zs s 1) (rByte zs s).toNat
def rText (zs : List Int) (s : Nat × Bool) : List Int := rGot zs (rNext zs s 1) (rByte zs s).toNat
theorem rTextN_bad {zs : List Int} {s : Nat × Bool} (h : s.2 = true) : (rTextN zs s).2 = true := rNext_after_bad (rNext_after_bad h _) _
theorem rTextN_good {zs : List Int} {p : Nat} (h : p + 1 + (zs.getD p 0).toNat ≤ zs.length) : rTextN zs (p, false) = (p + 1 + (zs.getD p 0).toNat, false) ∧ rText zs (p, false) = (zs.drop (p + 1)).take (zs.getD p 0).toNat := by
  have h1 : p + 1 ≤ zs.length := by omega
  constructor
  · rw [rTextN, rNext_good h1, rByte_good h1, rNext_good h]
  · rw [rText, rNext_good h1, rByte_good h1, rGot_good h]
theorem rTextN_long {zs : List Int} {p : Nat} (h : zs.length < p + 1 + (zs.getD p 0).toNat) : (rTextN zs (p, false)).2 = true := by
  by_cases h1 : p + 1 ≤ zs.length
  · rw [rTextN, rNext_good h1, rByte_good h1, rNext_long h]
  · exact rNext_after_bad (by rw [rNext_long (by omega)]) _
def lfAt (zs : List Int) : Nat := 2 + (zs.getD 1 0).toNat
def lfEnd (zs : List Int) : Nat := lfAt zs + 1 + (zs.getD (lfAt zs) 0).toNat
def lfU (zs : List Int) : List Int := (zs.drop 2).take (zs.getD 1 0).toNat
def lfW (zs : List Int) : List Int := (zs.drop (lfAt zs + 1)).take (zs.getD (lfAt zs) 0).toNat
def lfIn (zs : List Int) : Bool := validL zs && decide (1 ≤ zs.length) && decide (zs.getD 0 0 = 1) && decide (lfEnd zs ≤ zs.length)
def lfOk (zs : List Int) : Bool := lfIn zs && loginOk (strOfNums (lfU zs)) (strOfNums (lfW zs))
def lfS1 (zs : List Int) : Nat × Bool := rTold zs (rStart zs) [1]
def lfS2 (zs : List Int) : Nat × Bool := rTextN zs (lfS1 zs)
def lfS3 (zs : List Int) : Nat × Bool := rTextN zs (lfS2 zs)
def lfGU (zs : List Int) : List Int := rText zs (lfS1 zs)
def lfGW (zs : List Int) : List Int := rText zs (lfS2 zs)
theorem lf_state {zs : List Int} (h : lfIn zs = true) : lfS3 zs = (lfEnd zs, false) ∧ lfGU zs = lfU zs ∧ lfGW zs = lfW zs := by
  simp only [lfIn, Bool.and_eq_true, decide_eq_true_eq] at h
  obtain ⟨⟨⟨hv, hl⟩, h0⟩, he⟩ := h
  have e1 : lfS1 zs = (1, false) := told1 1 hv hl h0
  have ha : lfAt zs = 1 + 1 + (zs.getD 1 0).toNat := rfl
  have hb : lfEnd zs = lfAt zs + 1 + (zs.getD (lfAt zs) 0).toNat := rfl
  obtain ⟨e2, e3⟩ := rTextN_good (zs := zs) (p := 1) (by omega)
  have e4 : lfS2 zs = (lfAt zs, false) := by rw [lfS2, e1, e2, ha]
  obtain ⟨e5, e6⟩ := rTextN_good (zs := zs) (p := lfAt zs) (by omega)
  exact ⟨by rw [lfS3, e4, e5, hb], by rw [lfGU, e1, e3, lfU], by rw [lfGW, e4, e6, lfW]⟩
theorem lf_out {zs : List Int} (h : lfIn zs = false) : (lfS3 zs).2 = true := by
  by_cases h1 : (validL zs && decide (1 ≤ zs.length) && decide (zs.getD 0 0 = 1)) = true
  · have h1' := h1
    simp only [Bool.and_eq_true, decide_eq_true_eq] at h1
    obtain ⟨⟨hv, hl⟩, h0⟩ := h1
    have he : zs.length < lfEnd zs := by
      rw [lfIn, h1', Bool.true_and] at h
      simpa using h
    have e1 : lfS1 zs = (1, false) := told1 1 hv hl h0
    have ha : lfAt zs = 1 + 1 + (zs.getD 1 0).toNat := rfl
    have hb : lfEnd zs = lfAt zs + 1 + (zs.getD (lfAt zs) 0).toNat := rfl
    by_cases h2 : lfAt zs ≤ zs.length
    · obtain ⟨e2, _⟩ := rTextN_good (zs := zs) (p := 1) (by omega)
      have e4 : lfS2 zs = (lfAt zs, false) := by rw [lfS2, e1, e2, ha]
      rw [lfS3, e4]
      exact rTextN_long (by omega)
    · have e4 : (lfS2 zs).2 = true := by rw [lfS2, e1]; exact rTextN_long (by omega)
      exact rTextN_bad e4
  · have e1 : (lfS1 zs).2 = true := told1_not 1 (by simpa using h1)
    exact rTextN_bad (rTextN_bad e1)
theorem lf_ok (zs : List Int) : (!(lfS3 zs).2 && loginOk (strOfNums (lfGU zs)) (strOfNums (lfGW zs))) = lfOk zs := by
  cases h : lfIn zs
  · rw [lf_out h, lfOk, h]
    rfl
  · obtain ⟨e1, e2, e3⟩ := lf_state h
    rw [e1, e2, e3, lfOk, h]
    rfl
theorem lfOk_parts {zs : List Int} (h : lfOk zs = true) : validL zs = true ∧ 5 ≤ zs.length ∧ zs.getD 0 0 = 1 ∧ lfEnd zs ≤ zs.length ∧ (lfU zs).length = (zs.getD 1 0).toNat ∧ (lfW zs).length = (zs.getD (lfAt zs) 0).toNat
    ∧ loginOk (strOfNums (lfU zs)) (strOfNums (lfW zs)) = true := by
  simp only [lfOk, lfIn, Bool.and_eq_true, decide_eq_true_eq] at h
  obtain ⟨⟨⟨⟨hv, hl⟩, h0⟩, he⟩, h2⟩ := h
  have hb : lfEnd zs = lfAt zs + 1 + (zs.getD (lfAt zs) 0).toNat := rfl
  have ha : lfAt zs = 2 + (zs.getD 1 0).toNat := rfl
  have l1 : (lfU zs).length = (zs.getD 1 0).toNat := by
    unfold lfU
    rw [List.length_take, List.length_drop]
    omega
  have l2 : (lfW zs).length = (zs.getD (lfAt zs) 0).toNat := by
    unfold lfW
    rw [List.length_take, List.length_drop]
    omega
  have hp := loginOk_parts h2
  rw [str_length, str_length] at hp
  exact ⟨hv, by omega, h0, he, l1, l2, h2⟩
end Go.Proofs.Yticlgmdmkomdbaa

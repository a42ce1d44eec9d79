/-
  What the program's reader makes of an address, as plain functions of the bytes and the place: it fails where the bytes from that place on begin with none. Plain laws, no walk. Conditions: none.
-/
import Derived.Test.YtolbkdcnmkmncaaDoorAd
namespace Go.Proofs.YtolbkdcnmkmncaaDoor
open Go.RowKit

def raK (zs : List Int) (s : Nat × Bool) : Int := rByte zs s
def raS1 (zs : List Int) (s : Nat × Bool) : Nat × Bool := rNext zs s 1
def raQ (zs : List Int) (s : Nat × Bool) : List Int := if raK zs s = 1 then rGot zs (raS1 zs s) 4 else []
def raM (zs : List Int) (s : Nat × Bool) : ByteArray := if raK zs s = 3 then strOfNums (rText zs (raS1 zs s)) else ByteArray.empty
def raS2 (zs : List Int) (s : Nat × Bool) : Nat × Bool := if raK zs s = 1 then rNext zs (raS1 zs s) 4 else if raK zs s = 3 then rTextN zs (raS1 zs s) else raS1 zs s
/-- The number of two bytes. -/
def rNum2 (zs : List Int) (s : Nat × Bool) : Int := 256 * (rGot zs s 2).getD 0 0 + (rGot zs s 2).getD 1 0
def raP (zs : List Int) (s : Nat × Bool) : Int := rNum2 zs (raS2 zs s)
def raS3 (zs : List Int) (s : Nat × Bool) : Nat × Bool := rNext zs (raS2 zs s) 2
def raOk (zs : List Int) (s : Nat × Bool) : Bool := adOk (raK zs s) (raQ zs s) (raM zs s) (raP zs s)
/-- The reader behind an address. -/
def raEnd (zs : List Int) (s : Nat × Bool) : Nat × Bool := ((raS3 zs s).1, (raS3 zs s).2 || !raOk zs s)

theorem rNext_bad' {zs : List Int} {s : Nat × Bool} (h : s.2 = true) (n : Nat) : (rNext zs s n).2 = true := rNext_after_bad h n
theorem raEnd_bad {zs : List Int} {s : Nat × Bool} (h : s.2 = true) : (raEnd zs s).2 = true := by
  have h1 : (raS1 zs s).2 = true := rNext_after_bad h 1
  have h2 : (raS2 zs s).2 = true := by
    unfold raS2
    split
    · exact rNext_after_bad h1 4
    · split
      · exact rTextN_bad h1
      · exact h1
  have h3 : (raS3 zs s).2 = true := rNext_after_bad h2 2
  show ((raS3 zs s).2 || !raOk zs s) = true
  rw [h3]
  rfl
theorem RFit.text {zs : List Int} {s : Nat × Bool} (hf : RFit zs s) : RFit zs (rTextN zs s) := (hf.next 1).next _
theorem raS2_fit {zs : List Int} {s : Nat × Bool} (hf : RFit zs s) : RFit zs (raS2 zs s) := by
  unfold raS2
  split
  · exact (hf.next 1).next 4
  · split
    · exact (hf.next 1).text
    · exact hf.next 1
theorem drop_getD (zs : List Int) (p j : Nat) : (zs.drop p).getD j 0 = zs.getD (p + j) 0 := by simp [List.getD, List.getElem?_drop]
theorem rNum2_good {zs : List Int} {p : Nat} (h : p + 2 ≤ zs.length) : rNum2 zs (p, false) = 256 * zs.getD p 0 + zs.getD (p + 1) 0 := by
  rw [rNum2, rGot_good h]
  simp [List.getD, List.getElem?_drop]

/-- The reader that has not failed, at p: the address that the bytes from p on begin with, or it fails. -/
theorem raEnd_at {zs : List Int} {p : Nat} (hv : validL zs = true) (hp : p ≤ zs.length) :
    (afOk (zs.drop p) = true → raEnd zs (p, false) = (p + aN (zs.drop p), false) ∧ raK zs (p, false) = (zs.drop p).getD 0 0 ∧ raQ zs (p, false) = aQ (zs.drop p) ∧ raM zs (p, false) = aM (zs.drop p) ∧ raP zs (p, false) = aP (zs.drop p)) ∧
    (afOk (zs.drop p) = false → (raEnd zs (p, false)).2 = true) := by
  have hfit : RFit zs (p, false) := ⟨hp, fun _ => hv⟩
  have hlen : (zs.drop p).length = zs.length - p := by simp
  have eK : raK zs (p, false) = (zs.drop p).getD 0 0 := by
    rw [drop_getD, Nat.add_zero]
    by_cases h : p + 1 ≤ zs.length
    · exact rByte_good h
    · rw [raK, rByte_long (by omega)]
      simp [List.getD, (by omega : zs.length ≤ p)]
  by_cases h1 : p + 1 ≤ zs.length
  case neg =>
    have e0 : (zs.drop p).getD 0 0 = 0 := by rw [drop_getD]; simp [List.getD, (by omega : zs.length ≤ p)]
    have hb : (raEnd zs (p, false)).2 = true := by
      have hs1 : (raS1 zs (p, false)).2 = true := by rw [raS1, rNext_long (by omega)]
      have hs2 : raS2 zs (p, false) = raS1 zs (p, false) := by
        rw [raS2, eK, e0]
        simp
      have h3 : (raS3 zs (p, false)).2 = true := by rw [raS3, hs2]; exact rNext_after_bad hs1 2
      show ((raS3 zs (p, false)).2 || !raOk zs (p, false)) = true
      rw [h3]
      rfl
    refine ⟨fun h => ?_, fun _ => hb⟩
    rw [afOk, aIn, e0] at h
    simp at h
  have e1 : raS1 zs (p, false) = (p + 1, false) := rNext_good h1
  by_cases hk1 : (zs.drop p).getD 0 0 = 1
  · have eN : aN (zs.drop p) = 7 := by rw [aN, if_pos hk1]
    by_cases h7 : p + 7 ≤ zs.length
    · have e2 : raS2 zs (p, false) = (p + 5, false) := by rw [raS2, eK, if_pos hk1, e1, rNext_good (by omega)]
      have eQ : raQ zs (p, false) = aQ (zs.drop p) := by rw [raQ, eK, if_pos hk1, e1, rGot_good (by omega), aQ, if_pos hk1, List.drop_drop]
      have eM : raM zs (p, false) = aM (zs.drop p) := by rw [raM, eK, hk1, aM, if_pos hk1]; rfl
      have eP : raP zs (p, false) = aP (zs.drop p) := by rw [raP, e2, rNum2_good (by omega), aP, eN, drop_getD, drop_getD]
      have e3 : raS3 zs (p, false) = (p + 7, false) := by rw [raS3, e2, rNext_good (by omega)]
      have eO : raOk zs (p, false) = afOk (zs.drop p) := by
        rw [raOk, eK, eQ, eM, eP, afOk, aIn, eN, hlen, hk1, decide_eq_true (by omega : 7 ≤ zs.length - p)]
        simp
      refine ⟨fun h => ⟨?_, eK, eQ, eM, eP⟩, fun h => ?_⟩
      · rw [raEnd, e3, eO, h, eN]; rfl
      · rw [raEnd, e3, eO, h]; rfl
    · have hf : afOk (zs.drop p) = false := by
        rw [afOk, aIn, eN, hlen, decide_eq_false (by omega : ¬ 7 ≤ zs.length - p)]
        simp
      refine ⟨fun h => (by rw [hf] at h; cases h), fun _ => ?_⟩
      have h3 : (raS3 zs (p, false)).2 = true := by
        rw [raS3, raS2, eK, if_pos hk1, e1]
        by_cases h5 : p + 5 ≤ zs.length
        · rw [rNext_good (by omega), rNext_long (by omega)]
        · exact rNext_after_bad (by rw [rNext_long (by omega)]) 2
      show ((raS3 zs (p, false)).2 || !raOk zs (p, false)) = true
      rw [h3]
      rfl
  by_cases hk3 : (zs.drop p).getD 0 0 = 3
  · obtain ⟨m, hm⟩ : ∃ m : Nat, m = ((zs.drop p).getD 1 0).toNat := ⟨_, rfl⟩
    have eN : aN (zs.drop p) = 4 + m := by rw [aN, if_neg hk1, hm]
    have hg1 : zs.getD (p + 1) 0 = (zs.drop p).getD 1 0 := (drop_getD zs p 1).symm
    by_cases hT : p + 4 + m ≤ zs.length ∧ p + 2 ≤ zs.length
    · obtain ⟨eT, eG⟩ := rTextN_good (zs := zs) (p := p + 1) (by rw [hg1, ← hm]; omega)
      rw [hg1, ← hm] at eT eG
      have e2 : raS2 zs (p, false) = (p + 2 + m, false) := by
        rw [raS2, eK, if_neg hk1, if_pos hk3, e1, eT]
      have eQ : raQ zs (p, false) = aQ (zs.drop p) := by rw [raQ, eK, if_neg hk1, aQ, if_neg hk1]
      have eM : raM zs (p, false) = aM (zs.drop p) := by
        rw [raM, eK, if_pos hk3, aM, if_neg hk1, e1, eG, List.drop_drop, ← hm]
      have eP : raP zs (p, false) = aP (zs.drop p) := by
        rw [raP, e2, rNum2_good (by omega), aP, eN, drop_getD, drop_getD]
        rw [show p + (4 + m - 2) = p + 2 + m by omega, show p + (4 + m - 1) = p + 2 + m + 1 by omega]
      have e3 : raS3 zs (p, false) = (p + 4 + m, false) := by
        rw [raS3, e2, rNext_good (by omega)]
        congr 1
        omega
      have eO : raOk zs (p, false) = afOk (zs.drop p) := by
        rw [raOk, eK, eQ, eM, eP, afOk, aIn, eN, hlen, hk3, decide_eq_true (by omega : 4 + m ≤ zs.length - p), decide_eq_true (by omega : 2 ≤ zs.length - p)]
        simp
      refine ⟨fun h => ⟨?_, eK, eQ, eM, eP⟩, fun h => ?_⟩
      · rw [raEnd, e3, eO, h, eN, Nat.add_assoc]; rfl
      · rw [raEnd, e3, eO, h]; rfl
    · have hf : afOk (zs.drop p) = false := by
        rw [afOk, aIn, eN, hlen, hk3]
        by_cases h2 : 2 ≤ zs.length - p
        · rw [decide_eq_false (by omega : ¬ 4 + m ≤ zs.length - p)]
          simp
        · rw [decide_eq_false h2]
          simp
      refine ⟨fun h => (by rw [hf] at h; cases h), fun _ => ?_⟩
      have h3 : (raS3 zs (p, false)).2 = true := by
        rw [raS3, raS2, eK, if_neg hk1, if_pos hk3, e1]
        by_cases h2 : p + 1 + 1 + m ≤ zs.length
        · obtain ⟨eT, _⟩ := rTextN_good (zs := zs) (p := p + 1) (by rw [hg1, ← hm]; omega)
          rw [hg1, ← hm] at eT
          rw [eT, rNext_long (by omega)]
        · exact rNext_after_bad (rTextN_long (by rw [hg1, ← hm]; omega)) 2
      show ((raS3 zs (p, false)).2 || !raOk zs (p, false)) = true
      rw [h3]
      rfl
  have hf : afOk (zs.drop p) = false := by
    rw [afOk, aIn, decide_eq_false hk1, decide_eq_false hk3]
    simp
  refine ⟨fun h => (by rw [hf] at h; cases h), fun _ => ?_⟩
  have hO : raOk zs (p, false) = false := by
    rw [raOk, eK, adOk, decide_eq_false hk1, decide_eq_false hk3]
    simp
  show ((raS3 zs (p, false)).2 || !raOk zs (p, false)) = true
  rw [hO]
  simp

/-! a code and an address: 5, the code, 0, the address -/
def cfOk (zs : List Int) : Bool := validL zs && decide (3 ≤ zs.length) && decide (zs.getD 0 0 = 5) && decide (zs.getD 2 0 = 0) && afOk (zs.drop 3)
def cfS1 (zs : List Int) : Nat × Bool := rTold zs (rStart zs) [5]
def cfS2 (zs : List Int) : Nat × Bool := rNext zs (cfS1 zs) 1
def cfS3 (zs : List Int) : Nat × Bool := rTold zs (cfS2 zs) [0]
def cfEnd (zs : List Int) : Nat × Bool := raEnd zs (cfS3 zs)
theorem rTold_after_bad {zs : List Int} {s : Nat × Bool} (h : s.2 = true) (L : List Int) : (rTold zs s L).2 = true := by
  obtain ⟨p, b⟩ := s
  simp only at h
  subst h
  rw [rTold_bad]
theorem told_one {zs : List Int} {p : Nat} (c : Int) (h : p + 1 ≤ zs.length) (h0 : zs.getD p 0 = c) : rTold zs (p, false) [c] = (p + 1, false) := by
  refine rTold_good (by simpa using h) ?_
  rw [List.length_singleton, List.drop_eq_getElem_cons (by omega : p < zs.length), List.take_succ_cons, List.take_zero]
  simp [List.getD, (by omega : p < zs.length)] at h0
  rw [h0]
theorem told_one_not {zs : List Int} {p : Nat} (c : Int) (h : p + 1 ≤ zs.length → zs.getD p 0 ≠ c) : (rTold zs (p, false) [c]).2 = true := by
  by_cases hl : p + 1 ≤ zs.length
  · rw [rTold_other (by simpa using hl) (by
      rw [List.length_singleton, List.drop_eq_getElem_cons (by omega : p < zs.length), List.take_succ_cons, List.take_zero]
      intro he
      injection he with he
      exact h hl (by simp [List.getD, (by omega : p < zs.length), he]))]
  · rw [rTold_long (by rw [List.length_singleton]; omega)]
theorem cf_front {zs : List Int} (hv : validL zs = true) (hl : 3 ≤ zs.length) (h0 : zs.getD 0 0 = 5) (h2 : zs.getD 2 0 = 0) : cfS1 zs = (1, false) ∧ cfS2 zs = (2, false) ∧ cfS3 zs = (3, false) := by
  have e1 : cfS1 zs = (1, false) := told1 5 hv (by omega) h0
  have e2 : cfS2 zs = (2, false) := by rw [cfS2, e1, rNext_good (by omega)]
  exact ⟨e1, e2, by rw [cfS3, e2, told_one 0 (by omega) h2]⟩
theorem cf_state {zs : List Int} (h : cfOk zs = true) :
    cfEnd zs = (3 + aN (zs.drop 3), false) ∧ rByte zs (cfS1 zs) = zs.getD 1 0 ∧ raK zs (cfS3 zs) = (zs.drop 3).getD 0 0 ∧ raQ zs (cfS3 zs) = aQ (zs.drop 3) ∧ raM zs (cfS3 zs) = aM (zs.drop 3) ∧ raP zs (cfS3 zs) = aP (zs.drop 3) := by
  simp only [cfOk, Bool.and_eq_true, decide_eq_true_eq] at h
  obtain ⟨⟨⟨⟨hv, hl⟩, h0⟩, h2⟩, ha⟩ := h
  obtain ⟨e1, e2, e3⟩ := cf_front hv hl h0 h2
  obtain ⟨f1, f2, f3, f4, f5⟩ := (raEnd_at hv hl).1 ha
  rw [cfEnd, e3, e1]
  exact ⟨f1, rByte_good (by omega), f2, f3, f4, f5⟩
theorem cf_bad {zs : List Int} (h : cfOk zs = false) : (cfEnd zs).2 = true := by
  cases hv : validL zs
  · have hs : rStart zs = (0, true) := by simp [rStart, hv]
    refine raEnd_bad (rTold_after_bad (rNext_after_bad ?_ 1) _)
    rw [cfS1, hs, rTold_bad]
  have hs : rStart zs = (0, false) := by simp [rStart, hv]
  by_cases h0 : 1 ≤ zs.length ∧ zs.getD 0 0 = 5
  case neg =>
    refine raEnd_bad (rTold_after_bad (rNext_after_bad ?_ 1) _)
    rw [cfS1, hs]
    exact told_one_not 5 fun hl he => h0 ⟨by omega, he⟩
  have e1 : cfS1 zs = (1, false) := told1 5 hv h0.1 h0.2
  by_cases h1 : 2 ≤ zs.length
  case neg =>
    refine raEnd_bad (rTold_after_bad ?_ _)
    rw [cfS2, e1, rNext_long (by omega)]
  have e2 : cfS2 zs = (2, false) := by rw [cfS2, e1, rNext_good (by omega)]
  by_cases h2 : 3 ≤ zs.length ∧ zs.getD 2 0 = 0
  case neg =>
    refine raEnd_bad ?_
    rw [cfS3, e2]
    exact told_one_not 0 fun hl he => h2 ⟨by omega, he⟩
  obtain ⟨_, _, e3⟩ := cf_front hv h2.1 h0.2 h2.2
  rw [cfEnd, e3]
  refine (raEnd_at hv h2.1).2 ?_
  rw [cfOk, hv, decide_eq_true h2.1, decide_eq_true h0.2, decide_eq_true h2.2] at h
  simpa using h
/-- Whether the program's reader has failed behind a code and an address. -/
theorem cf_ok (zs : List Int) : (!(cfEnd zs).2) = cfOk zs := by
  cases h : cfOk zs
  · rw [cf_bad h]; rfl
  · rw [(cf_state h).1]; rfl
end Go.Proofs.YtolbkdcnmkmncaaDoor

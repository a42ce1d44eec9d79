/-
  Packets as plain data (the fragment's number, an address, bytes): which are valid, their bytes, and what bytes are one; plain laws, no walk. Conditions: none.
-/
import Derived.Test.YtolbkdcnmkmncaaDoorAdRead
namespace Go.Proofs.YtolbkdcnmkmncaaDoor
open Go.RowKit

def fragOk (f : Int) : Bool := inR f 0 255 && !decide (f = 128)
def dataOk (ds : List Int) : Bool := decide (ds.length ≤ 40) && validL ds
/-- A valid packet. -/
def pkOk (f k : Int) (qs : List Int) (nm : ByteArray) (p : Int) (ds : List Int) : Bool := fragOk f && adOk k qs nm p && dataOk ds
def pkB (f k : Int) (qs : List Int) (nm : ByteArray) (p : Int) (ds : List Int) : List Int := 0 :: 0 :: f :: (adB k qs nm p ++ ds)
def pkL (f k : Int) (qs : List Int) (nm : ByteArray) (p : Int) (ds : List Int) : List Int := if pkOk f k qs nm p ds = true then pkB f k qs nm p ds else []
theorem pkL_ok {f k : Int} {qs : List Int} {nm : ByteArray} {p : Int} {ds : List Int} (h : pkOk f k qs nm p ds = true) : pkL f k qs nm p ds = pkB f k qs nm p ds := by simp [pkL, h]
theorem pkL_not {f k : Int} {qs : List Int} {nm : ByteArray} {p : Int} {ds : List Int} (h : pkOk f k qs nm p ds = false) : pkL f k qs nm p ds = [] := by simp [pkL, h]
theorem fragOk_range {f : Int} (h : fragOk f = true) : 0 ≤ f ∧ f ≤ 255 ∧ f ≠ 128 := by
  simp [fragOk, inR] at h
  omega
theorem dataOk_parts {ds : List Int} (h : dataOk ds = true) : ds.length ≤ 40 ∧ ∀ x ∈ ds, 0 ≤ x ∧ x ≤ 255 := by
  simp only [dataOk, Bool.and_eq_true, decide_eq_true_eq] at h
  exact ⟨h.1, bytes_of_valid h.2⟩
theorem dataOk_of {ds : List Int} (h : ds.length ≤ 40) (h2 : ∀ x ∈ ds, 0 ≤ x ∧ x ≤ 255) : dataOk ds = true := by
  rw [dataOk, decide_eq_true h, validL_of (by omega) h2]
  rfl
theorem pkOk_parts {f k : Int} {qs : List Int} {nm : ByteArray} {p : Int} {ds : List Int} (h : pkOk f k qs nm p ds = true) : fragOk f = true ∧ adOk k qs nm p = true ∧ dataOk ds = true := by
  simp only [pkOk, Bool.and_eq_true] at h
  exact ⟨h.1.1, h.1.2, h.2⟩
theorem pkB_length {f k : Int} {qs : List Int} {nm : ByteArray} {p : Int} {ds : List Int} (h : pkOk f k qs nm p ds = true) : (pkB f k qs nm p ds).length ≤ 67 := by
  obtain ⟨_, h2, h3⟩ := pkOk_parts h
  have := adB_length h2
  have := (dataOk_parts h3).1
  simp [pkB]
  omega

/-! what bytes are a packet -/
def ppIn (zs : List Int) : Bool := validL zs && decide (3 ≤ zs.length) && decide (zs.getD 0 0 = 0) && decide (zs.getD 1 0 = 0) && afOk (zs.drop 3)
def ppAt (zs : List Int) : Nat := 3 + aN (zs.drop 3)
def ppD (zs : List Int) : List Int := zs.drop (ppAt zs)
def ppOk (zs : List Int) : Bool := ppIn zs && decide (zs.getD 2 0 ≠ 128) && decide ((ppD zs).length ≤ 40)
def ppS1 (zs : List Int) : Nat × Bool := rTold zs (rStart zs) [0, 0]
def ppS2 (zs : List Int) : Nat × Bool := rNext zs (ppS1 zs) 1
def ppEnd (zs : List Int) : Nat × Bool := raEnd zs (ppS2 zs)
theorem told_two {zs : List Int} {p : Nat} (c d : Int) (h : p + 2 ≤ zs.length) (h0 : zs.getD p 0 = c) (h1 : zs.getD (p + 1) 0 = d) : rTold zs (p, false) [c, d] = (p + 2, false) := by
  refine rTold_good (by simpa using h) ?_
  show (zs.drop p).take 2 = _
  rw [List.drop_eq_getElem_cons (by omega : p < zs.length), List.take_succ_cons, List.drop_eq_getElem_cons (by omega : p + 1 < zs.length), List.take_succ_cons, List.take_zero]
  simp [List.getD, (by omega : p < zs.length)] at h0
  simp [List.getD, (by omega : p + 1 < zs.length)] at h1
  rw [h0, h1]
theorem told_two_not {zs : List Int} {p : Nat} (c d : Int) (h : p + 2 ≤ zs.length → zs.getD p 0 = c → zs.getD (p + 1) 0 ≠ d) : (rTold zs (p, false) [c, d]).2 = true := by
  by_cases hl : p + 2 ≤ zs.length
  · rw [rTold_other (by simpa using hl) (by
      show (zs.drop p).take 2 ≠ _
      rw [List.drop_eq_getElem_cons (by omega : p < zs.length), List.take_succ_cons, List.drop_eq_getElem_cons (by omega : p + 1 < zs.length), List.take_succ_cons, List.take_zero]
      intro he
      injection he with he1 he2
      injection he2 with he2
      exact h hl (by simp [List.getD, (by omega : p < zs.length), he1]) (by simp [List.getD, (by omega : p + 1 < zs.length), he2]))]
  · rw [rTold_long (by simp; omega)]
theorem pp_state {zs : List Int} (h : ppIn zs = true) :
    ppEnd zs = (ppAt zs, false) ∧ rByte zs (ppS1 zs) = zs.getD 2 0 ∧ raK zs (ppS2 zs) = (zs.drop 3).getD 0 0 ∧ raQ zs (ppS2 zs) = aQ (zs.drop 3) ∧ raM zs (ppS2 zs) = aM (zs.drop 3) ∧ raP zs (ppS2 zs) = aP (zs.drop 3) := by
  simp only [ppIn, Bool.and_eq_true, decide_eq_true_eq] at h
  obtain ⟨⟨⟨⟨hv, hl⟩, h0⟩, h1⟩, ha⟩ := h
  have hs : rStart zs = (0, false) := by simp [rStart, hv]
  have e1 : ppS1 zs = (2, false) := by rw [ppS1, hs]; exact told_two 0 0 (by omega) h0 h1
  have e2 : ppS2 zs = (3, false) := by rw [ppS2, e1, rNext_good (by omega)]
  obtain ⟨f1, f2, f3, f4, f5⟩ := (raEnd_at hv hl).1 ha
  rw [ppEnd, e2, e1]
  exact ⟨f1, rByte_good (by omega), f2, f3, f4, f5⟩
theorem pp_bad {zs : List Int} (h : ppIn zs = false) : (ppEnd zs).2 = true := by
  cases hv : validL zs
  · have hs : rStart zs = (0, true) := by simp [rStart, hv]
    refine raEnd_bad (rNext_after_bad ?_ 1)
    rw [ppS1, hs, rTold_bad]
  have hs : rStart zs = (0, false) := by simp [rStart, hv]
  by_cases h0 : 2 ≤ zs.length ∧ zs.getD 0 0 = 0 ∧ zs.getD 1 0 = 0
  case neg =>
    refine raEnd_bad (rNext_after_bad ?_ 1)
    rw [ppS1, hs]
    exact told_two_not 0 0 fun hl he he2 => h0 ⟨by omega, he, he2⟩
  have e1 : ppS1 zs = (2, false) := by rw [ppS1, hs]; exact told_two 0 0 (by omega) h0.2.1 h0.2.2
  by_cases h1 : 3 ≤ zs.length
  case neg =>
    refine raEnd_bad ?_
    rw [ppS2, e1, rNext_long (by omega)]
  have e2 : ppS2 zs = (3, false) := by rw [ppS2, e1, rNext_good (by omega)]
  rw [ppEnd, e2]
  refine (raEnd_at hv h1).2 ?_
  rw [ppIn, hv, decide_eq_true h1, decide_eq_true h0.2.1, decide_eq_true h0.2.2] at h
  simpa using h
theorem pp_in (zs : List Int) : (!(ppEnd zs).2) = ppIn zs := by
  cases h : ppIn zs
  · rw [pp_bad h]; rfl
  · rw [(pp_state h).1]; rfl
theorem ppIn_parts {zs : List Int} (h : ppIn zs = true) : validL zs = true ∧ 3 ≤ zs.length ∧ zs.getD 0 0 = 0 ∧ zs.getD 1 0 = 0 ∧ afOk (zs.drop 3) = true := by
  simp only [ppIn, Bool.and_eq_true, decide_eq_true_eq] at h
  exact ⟨h.1.1.1.1, h.1.1.1.2, h.1.1.2, h.1.2, h.2⟩
theorem afOk_parts {t : List Int} (h : afOk t = true) : aN t ≤ t.length ∧ adOk (t.getD 0 0) (aQ t) (aM t) (aP t) = true := by
  simp only [afOk, aIn, Bool.and_eq_true, decide_eq_true_eq] at h
  exact ⟨h.1.2, h.2⟩
theorem ppAt_le {zs : List Int} (h : ppIn zs = true) : ppAt zs ≤ zs.length := by
  obtain ⟨_, h3, _, _, h4⟩ := ppIn_parts h
  have := (afOk_parts h4).1
  simp at this
  unfold ppAt
  omega
/-- What the program's isPacket says of what was read. -/
theorem pp_ok {zs : List Int} (h : ppIn zs = true) : pkOk (zs.getD 2 0) ((zs.drop 3).getD 0 0) (aQ (zs.drop 3)) (aM (zs.drop 3)) (aP (zs.drop 3)) (ppD zs) = (decide (zs.getD 2 0 ≠ 128) && decide ((ppD zs).length ≤ 40)) := by
  obtain ⟨hv, h3, _, _, h4⟩ := ppIn_parts h
  have hb := bytes_of_valid hv
  have h2 := hb (zs.getD 2 0) (by simp [List.getD, (by omega : 2 < zs.length)])
  have hd : validL (ppD zs) = true := by
    have hl := validL_len hv
    refine validL_of (by unfold ppD; simp; omega) fun x hx => hb x (List.mem_of_mem_drop hx)
  rw [pkOk, (afOk_parts h4).2, fragOk, dataOk, hd, inR, decide_eq_true h2.1, decide_eq_true h2.2]
  simp

/-- The bytes of a packet are it. -/
theorem pk_back {f k : Int} {qs : List Int} {nm : ByteArray} {p : Int} {ds : List Int} (h : pkOk f k qs nm p ds = true) :
    ppOk (pkB f k qs nm p ds) = true ∧ (pkB f k qs nm p ds).getD 2 0 = f ∧ ((pkB f k qs nm p ds).drop 3).getD 0 0 = k ∧ aQ ((pkB f k qs nm p ds).drop 3) = qs ∧ aM ((pkB f k qs nm p ds).drop 3) = nm ∧ aP ((pkB f k qs nm p ds).drop 3) = p ∧ ppD (pkB f k qs nm p ds) = ds := by
  obtain ⟨h1, h2, h3⟩ := pkOk_parts h
  have hl := pkB_length h
  have hf := fragOk_range h1
  have hd := dataOk_parts h3
  have e3 : (pkB f k qs nm p ds).drop 3 = adB k qs nm p ++ ds := by simp [pkB]
  obtain ⟨g1, g2, g3, g4, g5, g6⟩ := ad_back h2 ds
  have eD : ppD (pkB f k qs nm p ds) = ds := by
    rw [ppD, ppAt, e3, g3, ← List.drop_drop, e3]
    simp
  have hv : validL (pkB f k qs nm p ds) = true := by
    refine validL_of (by omega) fun x hx => ?_
    simp only [pkB, List.mem_cons, List.mem_append] at hx
    rcases hx with rfl | rfl | rfl | hx | hx
    · omega
    · omega
    · omega
    · exact adB_bytes h2 x hx
    · exact hd.2 x hx
  refine ⟨?_, by simp [pkB], by rw [e3]; exact g2, by rw [e3]; exact g4, by rw [e3]; exact g5, by rw [e3]; exact g6, eD⟩
  have hl3 : 3 ≤ (pkB f k qs nm p ds).length := by simp [pkB]
  have h0 : (pkB f k qs nm p ds).getD 0 0 = 0 := by simp [pkB]
  have h1' : (pkB f k qs nm p ds).getD 1 0 = 0 := by simp [pkB]
  have h2' : (pkB f k qs nm p ds).getD 2 0 = f := by simp [pkB]
  rw [ppOk, ppIn, hv, decide_eq_true hl3, decide_eq_true h0, decide_eq_true h1', e3, g1, h2', decide_eq_true hf.2.2, eD, decide_eq_true hd.1]
  rfl
/-- The packet that bytes are has them. -/
theorem pk_fore {zs : List Int} (h : ppIn zs = true) : pkB (zs.getD 2 0) ((zs.drop 3).getD 0 0) (aQ (zs.drop 3)) (aM (zs.drop 3)) (aP (zs.drop 3)) (ppD zs) = zs := by
  obtain ⟨hv, h3, h0, h1, h4⟩ := ppIn_parts h
  have hb := bytes_of_valid hv
  have e := ad_fore (t := zs.drop 3) (fun x hx => hb x (List.mem_of_mem_drop hx)) h4
  rw [pkB, e, ppD, ppAt, ← List.drop_drop, List.take_append_drop]
  match zs, h3, h0, h1 with
  | a :: b :: c :: r, _, h0, h1 =>
    have ha : a = 0 := by simpa using h0
    have hb' : b = 0 := by simpa using h1
    simp [ha, hb']

/-! a request, a reply -/
def rqOk (c k : Int) (qs : List Int) (nm : ByteArray) (p : Int) : Bool := inR c 1 3 && adOk k qs nm p
def rpOk (c k : Int) (qs : List Int) (nm : ByteArray) (p : Int) : Bool := inR c 0 8 && adOk k qs nm p
def cdB (c k : Int) (qs : List Int) (nm : ByteArray) (p : Int) : List Int := 5 :: c :: 0 :: adB k qs nm p
theorem cdB_length {c k : Int} {qs : List Int} {nm : ByteArray} {p : Int} (h : adOk k qs nm p = true) : 7 ≤ (cdB c k qs nm p).length ∧ (cdB c k qs nm p).length ≤ 27 ∧ (cdB c k qs nm p).length = 3 + (adB k qs nm p).length := by
  have := adB_length h
  simp [cdB]
  omega
theorem cd_back {c k : Int} {qs : List Int} {nm : ByteArray} {p : Int} (hc : 0 ≤ c ∧ c ≤ 255) (h : adOk k qs nm p = true) {t : List Int} (ht : ∀ x ∈ t, 0 ≤ x ∧ x ≤ 255) (hl : t.length ≤ 90) :
    cfOk (cdB c k qs nm p ++ t) = true ∧ (cdB c k qs nm p ++ t).getD 1 0 = c ∧ ((cdB c k qs nm p ++ t).drop 3).getD 0 0 = k ∧ 3 + aN ((cdB c k qs nm p ++ t).drop 3) = (cdB c k qs nm p).length ∧
      aQ ((cdB c k qs nm p ++ t).drop 3) = qs ∧ aM ((cdB c k qs nm p ++ t).drop 3) = nm ∧ aP ((cdB c k qs nm p ++ t).drop 3) = p := by
  have hlen := cdB_length (c := c) h
  have e3 : (cdB c k qs nm p ++ t).drop 3 = adB k qs nm p ++ t := by simp [cdB]
  obtain ⟨g1, g2, g3, g4, g5, g6⟩ := ad_back h t
  have hv : validL (cdB c k qs nm p ++ t) = true := by
    refine validL_of (by rw [List.length_append]; omega) fun x hx => ?_
    simp only [cdB, List.cons_append, List.mem_cons, List.mem_append] at hx
    rcases hx with rfl | rfl | rfl | hx | hx
    · omega
    · exact hc
    · omega
    · exact adB_bytes h x hx
    · exact ht x hx
  rw [cfOk, hv, e3, g1, g2, g3, g4, g5, g6]
  refine ⟨?_, by simp [cdB], rfl, by rw [hlen.2.2], rfl, rfl, rfl⟩
  have : 3 ≤ (cdB c k qs nm p ++ t).length := by rw [List.length_append]; omega
  rw [decide_eq_true this]
  simp [cdB]
theorem cfOk_parts {zs : List Int} (h : cfOk zs = true) : validL zs = true ∧ 3 ≤ zs.length ∧ zs.getD 0 0 = 5 ∧ zs.getD 2 0 = 0 ∧ afOk (zs.drop 3) = true := by
  simp only [cfOk, Bool.and_eq_true, decide_eq_true_eq] at h
  exact ⟨h.1.1.1.1, h.1.1.1.2, h.1.1.2, h.1.2, h.2⟩
theorem cd_fore {zs : List Int} (h : cfOk zs = true) : cdB (zs.getD 1 0) ((zs.drop 3).getD 0 0) (aQ (zs.drop 3)) (aM (zs.drop 3)) (aP (zs.drop 3)) = zs.take (3 + aN (zs.drop 3)) ∧ 3 + aN (zs.drop 3) ≤ zs.length := by
  obtain ⟨hv, h3, h0, h2, h4⟩ := cfOk_parts h
  have hb := bytes_of_valid hv
  have e := ad_fore (t := zs.drop 3) (fun x hx => hb x (List.mem_of_mem_drop hx)) h4
  have hl := (afOk_parts h4).1
  simp at hl
  constructor
  · rw [cdB, e, List.take_add]
    match zs, h3, h0, h2 with
    | a :: b :: c :: r, _, h0, h2 =>
      have ha : a = 5 := by simpa using h0
      have hc : c = 0 := by simpa using h2
      simp [ha, hc]
  · omega
/-- No part of such bytes begins with a code and an address. -/
theorem cd_part {c k : Int} {qs : List Int} {nm : ByteArray} {p : Int} (h : adOk k qs nm p = true) {j : Nat} (hj : j < (cdB c k qs nm p).length) : cfOk ((cdB c k qs nm p).take j) = false := by
  have hlen := cdB_length (c := c) h
  have hl : ((cdB c k qs nm p).take j).length = j := by simp; omega
  by_cases h3 : 3 ≤ j
  · have e : ((cdB c k qs nm p).take j).drop 3 = (adB k qs nm p).take (j - 3) := by
      rw [List.drop_take]
      simp [cdB]
    rw [cfOk, e, ad_part h (by omega), Bool.and_false]
  · rw [cfOk, hl, decide_eq_false h3]
    simp
end Go.Proofs.YtolbkdcnmkmncaaDoor

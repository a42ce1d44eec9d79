/-
  Addresses as plain data (kind, quad, name, port): which are valid, their bytes, and what bytes begin with; plain laws, no walk. Conditions: none.
-/
import Derived.Test.YtolbkdcnmkmncaaDoorPieces
import Derived.Test.YtolbkdcnmkmncaaDoorText
namespace Go.Proofs.YtolbkdcnmkmncaaDoor
open Go.RowKit

def quadOk (qs : List Int) : Bool := decide (qs.length = 4) && validL qs
def portOk (p : Int) : Bool := inR p 0 65535
/-- A valid address. -/
def adOk (k : Int) (qs : List Int) (nm : ByteArray) (p : Int) : Bool :=
  portOk p && ((decide (k = 1) && quadOk qs && decide (nm.size = 0)) || (decide (k = 3) && nameOk nm && decide (qs.length = 0)))
def num2 (p : Int) : List Int := [p / 256, p % 256]
/-- The bytes of an address. -/
def adB (k : Int) (qs : List Int) (nm : ByteArray) (p : Int) : List Int := if k = 1 then 1 :: (qs ++ num2 p) else k :: (nm.size : Int) :: (numsOf nm ++ num2 p)
def adL (k : Int) (qs : List Int) (nm : ByteArray) (p : Int) : List Int := if adOk k qs nm p = true then adB k qs nm p else []

theorem portOk_range {p : Int} (h : portOk p = true) : 0 ≤ p ∧ p ≤ 65535 := by simpa [portOk, inR] using h
theorem quadOk_parts {qs : List Int} (h : quadOk qs = true) : qs.length = 4 ∧ ∀ x ∈ qs, 0 ≤ x ∧ x ≤ 255 := by
  simp only [quadOk, Bool.and_eq_true, decide_eq_true_eq] at h
  exact ⟨h.1, bytes_of_valid h.2⟩
theorem adOk_quad {k : Int} {qs : List Int} {nm : ByteArray} {p : Int} (h : adOk k qs nm p = true) (hk : k = 1) : portOk p = true ∧ quadOk qs = true ∧ nm.size = 0 := by
  subst hk
  simp [adOk] at h
  exact ⟨h.1, h.2.1, by rw [h.2.2]; rfl⟩
theorem adOk_name {k : Int} {qs : List Int} {nm : ByteArray} {p : Int} (h : adOk k qs nm p = true) (hk : k ≠ 1) : k = 3 ∧ portOk p = true ∧ nameOk nm = true ∧ qs = [] := by
  simp [adOk, hk] at h
  obtain ⟨h1, ⟨h2, h3⟩, h4⟩ := h
  exact ⟨h2, h1, h3, h4⟩
theorem adOk_kind {k : Int} {qs : List Int} {nm : ByteArray} {p : Int} (h : adOk k qs nm p = true) : k = 1 ∨ k = 3 := by
  by_cases hk : k = 1
  · exact .inl hk
  · exact .inr (adOk_name h hk).1
theorem adOk_port {k : Int} {qs : List Int} {nm : ByteArray} {p : Int} (h : adOk k qs nm p = true) : 0 ≤ p ∧ p ≤ 65535 := by
  simp only [adOk, Bool.and_eq_true] at h
  exact portOk_range h.1
theorem adOk_sizes {k : Int} {qs : List Int} {nm : ByteArray} {p : Int} (h : adOk k qs nm p = true) : qs.length ≤ 4 ∧ nm.size ≤ 20 := by
  by_cases hk : k = 1
  · obtain ⟨_, h2, h3⟩ := adOk_quad h hk
    have := (quadOk_parts h2).1
    omega
  · obtain ⟨_, _, h2, h3⟩ := adOk_name h hk
    have := nameOk_size h2
    rw [h3]
    simp
    omega
theorem num2_bytes {p : Int} (h : 0 ≤ p ∧ p ≤ 65535) : ∀ x ∈ num2 p, 0 ≤ x ∧ x ≤ 255 := by
  intro x hx
  simp [num2] at hx
  omega
theorem adB_quad (qs : List Int) (nm : ByteArray) (p : Int) : adB 1 qs nm p = 1 :: (qs ++ num2 p) := by simp [adB]
theorem adB_name (k : Int) (hk : k ≠ 1) (qs : List Int) (nm : ByteArray) (p : Int) : adB k qs nm p = k :: (nm.size : Int) :: (numsOf nm ++ num2 p) := by simp [adB, hk]
theorem adB_length {k : Int} {qs : List Int} {nm : ByteArray} {p : Int} (h : adOk k qs nm p = true) : 4 ≤ (adB k qs nm p).length ∧ (adB k qs nm p).length ≤ 24 ∧ (k = 1 → (adB k qs nm p).length = 7) ∧ (k ≠ 1 → (adB k qs nm p).length = 4 + nm.size) := by
  by_cases hk : k = 1
  · obtain ⟨_, h2, _⟩ := adOk_quad h hk
    have h4 := (quadOk_parts h2).1
    subst hk
    rw [adB_quad]
    simp [num2, h4]
  · obtain ⟨_, _, h2, _⟩ := adOk_name h hk
    have := nameOk_size h2
    rw [adB_name k hk]
    simp [num2, numsOf_length, hk]
    omega
theorem adB_bytes {k : Int} {qs : List Int} {nm : ByteArray} {p : Int} (h : adOk k qs nm p = true) : ∀ x ∈ adB k qs nm p, 0 ≤ x ∧ x ≤ 255 := by
  intro x hx
  have hp := num2_bytes (adOk_port h)
  by_cases hk : k = 1
  · obtain ⟨_, h2, _⟩ := adOk_quad h hk
    subst hk
    rw [adB_quad] at hx
    simp only [List.mem_cons, List.mem_append] at hx
    rcases hx with rfl | hx | hx
    · omega
    · exact (quadOk_parts h2).2 x hx
    · exact hp x hx
  · obtain ⟨h3, _, h2, _⟩ := adOk_name h hk
    have := nameOk_size h2
    rw [adB_name k hk] at hx
    simp only [List.mem_cons, List.mem_append] at hx
    rcases hx with rfl | rfl | hx | hx
    · omega
    · omega
    · exact numsOf_bytes nm x hx
    · exact hp x hx
theorem adL_ok {k : Int} {qs : List Int} {nm : ByteArray} {p : Int} (h : adOk k qs nm p = true) : adL k qs nm p = adB k qs nm p := by simp [adL, h]
theorem adL_not {k : Int} {qs : List Int} {nm : ByteArray} {p : Int} (h : adOk k qs nm p = false) : adL k qs nm p = [] := by simp [adL, h]

/-! what bytes begin with -/
def aN (t : List Int) : Nat := if t.getD 0 0 = 1 then 7 else 4 + (t.getD 1 0).toNat
def aQ (t : List Int) : List Int := if t.getD 0 0 = 1 then (t.drop 1).take 4 else []
def aM (t : List Int) : ByteArray := if t.getD 0 0 = 1 then ByteArray.empty else strOfNums ((t.drop 2).take (t.getD 1 0).toNat)
def aP (t : List Int) : Int := 256 * t.getD (aN t - 2) 0 + t.getD (aN t - 1) 0
def aIn (t : List Int) : Bool := (decide (t.getD 0 0 = 1) || (decide (t.getD 0 0 = 3) && decide (2 ≤ t.length))) && decide (aN t ≤ t.length)
/-- Valid bytes begin with an address. -/
def afOk (t : List Int) : Bool := aIn t && adOk (t.getD 0 0) (aQ t) (aM t) (aP t)

theorem getD_app {a b : List Int} {j : Nat} (h : j < a.length) : (a ++ b).getD j 0 = a.getD j 0 := by simp [List.getD, List.getElem?_append_left h]
theorem getD_past {a b : List Int} {j : Nat} (h : a.length ≤ j) : (a ++ b).getD j 0 = b.getD (j - a.length) 0 := by simp [List.getD, List.getElem?_append_right h]

/-- The bytes of an address begin with it. -/
theorem ad_back {k : Int} {qs : List Int} {nm : ByteArray} {p : Int} (h : adOk k qs nm p = true) (t : List Int) :
    afOk (adB k qs nm p ++ t) = true ∧ (adB k qs nm p ++ t).getD 0 0 = k ∧ aN (adB k qs nm p ++ t) = (adB k qs nm p).length ∧ aQ (adB k qs nm p ++ t) = qs ∧ aM (adB k qs nm p ++ t) = nm ∧ aP (adB k qs nm p ++ t) = p := by
  have hp := adOk_port h
  have hlen := adB_length h
  by_cases hk : k = 1
  · obtain ⟨_, h2, h3⟩ := adOk_quad h hk
    obtain ⟨h4, _⟩ := quadOk_parts h2
    subst hk
    have hL : (adB 1 qs nm p).length = 7 := hlen.2.2.1 rfl
    have e0 : (adB 1 qs nm p ++ t).getD 0 0 = 1 := by simp [adB]
    have eN : aN (adB 1 qs nm p ++ t) = 7 := by rw [aN, if_pos e0]
    have eQ : aQ (adB 1 qs nm p ++ t) = qs := by
      rw [aQ, if_pos e0, adB_quad]
      simp [← h4]
    have hnm : nm = ByteArray.empty := ByteArray.ext (Array.eq_empty_of_size_eq_zero h3)
    have eM : aM (adB 1 qs nm p ++ t) = nm := by rw [aM, if_pos e0, hnm]
    have eP : aP (adB 1 qs nm p ++ t) = p := by
      rw [aP, eN, adB_quad]
      match qs, h4 with
      | [a, b, c, d], _ =>
        simp [num2]
        omega
    refine ⟨?_, e0, by rw [eN, hL], eQ, eM, eP⟩
    rw [afOk, e0, eQ, eM, eP, h, aIn, e0, eN]
    simp [hL]
  · obtain ⟨h3, _, h2, h4⟩ := adOk_name h hk
    have hs := nameOk_size h2
    have hL : (adB k qs nm p).length = 4 + nm.size := hlen.2.2.2 hk
    have e0 : (adB k qs nm p ++ t).getD 0 0 = k := by rw [adB_name k hk]; simp
    have e1 : (adB k qs nm p ++ t).getD 1 0 = (nm.size : Int) := by rw [adB_name k hk]; simp
    have ne : ¬ (adB k qs nm p ++ t).getD 0 0 = 1 := by rw [e0]; exact hk
    have eN : aN (adB k qs nm p ++ t) = 4 + nm.size := by rw [aN, if_neg ne, e1, Int.toNat_natCast]
    have eQ : aQ (adB k qs nm p ++ t) = qs := by rw [aQ, if_neg ne, h4]
    have hn : (numsOf nm).length = nm.size := numsOf_length nm
    have eM : aM (adB k qs nm p ++ t) = nm := by
      rw [aM, if_neg ne, e1, Int.toNat_natCast, adB_name k hk]
      have : ((k :: (nm.size : Int) :: (numsOf nm ++ num2 p) ++ t).drop 2).take nm.size = numsOf nm := by
        simp [← hn]
      rw [this, str_numsOf]
    have eP : aP (adB k qs nm p ++ t) = p := by
      rw [aP, eN]
      have f : ∀ j, (adB k qs nm p ++ t).getD (2 + nm.size + j) 0 = (num2 p ++ t).getD j 0 := by
        intro j
        rw [adB_name k hk]
        have : (k :: (nm.size : Int) :: (numsOf nm ++ num2 p) ++ t) = (k :: (nm.size : Int) :: numsOf nm) ++ (num2 p ++ t) := by simp
        rw [this, getD_past (by simp [hn]; omega)]
        congr 1
        simp [hn]
        omega
      have f0 := f 0
      have f1 := f 1
      rw [show 4 + nm.size - 2 = 2 + nm.size + 0 by omega, show 4 + nm.size - 1 = 2 + nm.size + 1 by omega, f0, f1]
      simp [num2]
      omega
    refine ⟨?_, e0, by rw [eN, hL], eQ, eM, eP⟩
    have l2 : 2 ≤ (adB k qs nm p ++ t).length := by rw [List.length_append, hL]; omega
    have l4 : 4 + nm.size ≤ (adB k qs nm p ++ t).length := by rw [List.length_append, hL]; omega
    rw [afOk, e0, eQ, eM, eP, h, aIn, e0, eN, decide_eq_true h3, decide_eq_true l2, decide_eq_true l4]
    simp

/-- Bytes that begin with an address begin with its bytes. -/
theorem ad_fore {t : List Int} (hb : ∀ x ∈ t, 0 ≤ x ∧ x ≤ 255) (h : afOk t = true) : adB (t.getD 0 0) (aQ t) (aM t) (aP t) = t.take (aN t) := by
  simp only [afOk, Bool.and_eq_true] at h
  obtain ⟨hin, hok⟩ := h
  simp only [aIn, Bool.and_eq_true, decide_eq_true_eq] at hin
  obtain ⟨hk, hl⟩ := hin
  have hbd : ∀ j, j < t.length → 0 ≤ t.getD j 0 ∧ t.getD j 0 ≤ 255 := fun j hj => by
    have := hb t[j] (List.getElem_mem hj)
    simpa [List.getD, hj] using this
  have two : ∀ n : Nat, 2 ≤ n → n ≤ t.length → num2 (256 * t.getD (n - 2) 0 + t.getD (n - 1) 0) = (t.drop (n - 2)).take 2 := by
    intro n h2 hn
    have a := hbd (n - 2) (by omega)
    have b := hbd (n - 1) (by omega)
    rw [num2, show (256 * t.getD (n - 2) 0 + t.getD (n - 1) 0) / 256 = t.getD (n - 2) 0 by omega, show (256 * t.getD (n - 2) 0 + t.getD (n - 1) 0) % 256 = t.getD (n - 1) 0 by omega]
    rw [List.drop_eq_getElem_cons (by omega : n - 2 < t.length), List.take_succ_cons]
    have e : n - 2 + 1 = n - 1 := by omega
    rw [e, List.drop_eq_getElem_cons (by omega : n - 1 < t.length), List.take_succ_cons, List.take_zero]
    simp [List.getD, (by omega : n - 2 < t.length), (by omega : n - 1 < t.length)]
  by_cases h1 : t.getD 0 0 = 1
  · have eN : aN t = 7 := by rw [aN, if_pos h1]
    have eQ : aQ t = (t.drop 1).take 4 := by rw [aQ, if_pos h1]
    rw [eN] at hl
    have e2 := two 7 (by omega) hl
    rw [aP, eN, h1, adB_quad, e2, eQ]
    have h0 : t.take 7 = t.take 1 ++ ((t.drop 1).take 4 ++ (t.drop 5).take 2) := by
      rw [show t.take 7 = t.take (1 + (4 + 2)) by rfl, List.take_add, List.take_add, List.drop_drop]
    have h00 : t.take 1 = [1] := by
      cases t with
      | nil => simp at hl
      | cons x r => simp at h1; simp [h1]
    rw [h0, h00]
    rfl
  · have h3 : t.getD 0 0 = 3 ∧ 2 ≤ t.length := by
      rw [decide_eq_false h1] at hk
      simpa using hk
    have h2l := h3.2
    have b1 := hbd 1 (by omega)
    obtain ⟨m, hm⟩ : ∃ m : Nat, t.getD 1 0 = (m : Int) := ⟨_, (Int.toNat_of_nonneg b1.1).symm⟩
    have eN : aN t = 4 + m := by rw [aN, if_neg h1, hm, Int.toNat_natCast]
    rw [eN] at hl
    have eM : aM t = strOfNums ((t.drop 2).take m) := by rw [aM, if_neg h1, hm, Int.toNat_natCast]
    have hml : ((t.drop 2).take m).length = m := by simp; omega
    have hmb : ∀ x ∈ (t.drop 2).take m, 0 ≤ x ∧ x ≤ 255 := fun x hx => hb x (List.mem_of_mem_drop (List.mem_of_mem_take hx))
    have e2 := two (4 + m) (by omega) hl
    rw [aP, eN, adB_name _ h1, e2, eM, numsOf_str hmb, str_length, hml, h3.1]
    have h0 : t.take (4 + m) = t.take 2 ++ ((t.drop 2).take m ++ (t.drop (2 + m)).take 2) := by
      rw [show 4 + m = 2 + (m + 2) by omega, List.take_add, List.take_add, List.drop_drop]
    have h00 : t.take 2 = [3, (m : Int)] := by
      match t, h2l with
      | x :: y :: r, _ =>
        have hx : x = 3 := by simpa using h3.1
        have hy : y = (m : Int) := by simpa using hm
        simp [hx, hy]
    rw [h0, h00, show 4 + m - 2 = 2 + m by omega]
    rfl

/-- No part of an address's bytes begins with an address. -/
theorem ad_part {k : Int} {qs : List Int} {nm : ByteArray} {p : Int} (h : adOk k qs nm p = true) {j : Nat} (hj : j < (adB k qs nm p).length) : afOk ((adB k qs nm p).take j) = false := by
  obtain ⟨L, hL⟩ : ∃ L, adB k qs nm p = L := ⟨_, rfl⟩
  have hlen := adB_length h
  have e := ad_back h []
  rw [List.append_nil, hL] at e
  rw [hL] at hj hlen ⊢
  obtain ⟨_, e0, eN, _⟩ := e
  have hl : (L.take j).length = j := by simp; omega
  have g0 : (L.take j).getD 0 0 = if 0 < j then k else 0 := by
    by_cases h0 : 0 < j
    · rw [if_pos h0, ← e0]
      simp [List.getD, h0]
    · rw [if_neg h0]
      have : j = 0 := by omega
      subst this
      simp
  have hin : aIn (L.take j) = false := by
    unfold aIn
    rw [hl]
    rcases adOk_kind h with hk | hk
    · by_cases h0 : 0 < j
      · rw [if_pos h0, hk] at g0
        have : aN (L.take j) = 7 := by rw [aN, if_pos g0]
        rw [this]
        have := hlen.2.2.1 hk
        have : ¬ 7 ≤ j := by omega
        simp [this]
      · rw [if_neg h0] at g0
        rw [g0]
        simp
    · by_cases h1 : 2 ≤ j
      · have g1 : (L.take j).getD 1 0 = L.getD 1 0 := by simp [List.getD, (by omega : 1 < j)]
        rw [if_pos (by omega), hk] at g0
        have n1 : ¬ (L.take j).getD 0 0 = 1 := by rw [g0]; omega
        have n2 : ¬ L.getD 0 0 = 1 := by rw [e0, hk]; omega
        have : aN (L.take j) = aN L := by rw [aN, aN, if_neg n1, if_neg n2, g1]
        rw [this, eN]
        have : ¬ L.length ≤ j := by omega
        simp [this]
      · have n1 : ¬ (L.take j).getD 0 0 = 1 := by
          rw [g0]
          split <;> omega
        rw [decide_eq_false n1, decide_eq_false h1]
        simp
  rw [afOk, hin]
  rfl
end Go.Proofs.YtolbkdcnmkmncaaDoor

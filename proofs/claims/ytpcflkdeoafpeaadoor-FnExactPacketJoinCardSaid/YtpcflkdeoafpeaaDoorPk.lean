/-
  Addresses as plain data (kind, quad, name, port): which are valid, their bytes, and what bytes begin with; plain laws, no walk. Conditions: none.
  What the program's reader makes of an address, as plain functions of the bytes and the place: it fails where the bytes from that place on begin with none. Plain laws, no walk. Conditions: none.
  Packets as plain data (the fragment's number, an address, bytes): which are valid, their bytes, and what bytes are one; plain laws, no walk. Conditions: none.
-/
import Derived.Test.YtpcflkdeoafpeaaDoorStr
import Derived.Test.YtpcflkdeoafpeaaDoorText
namespace Go.Proofs.YtpcflkdeoafpeaaDoor
open Go.RowKit

def quadOk (qs : List Int) : Bool := decide (qs.length = 4) && validL qs
def portOk (p : Int) : Bool := inR p 0 65535
/-- A valid address. -/
def adOk (k : Int) (qs : List Int) (nm : ByteArray) (p : Int) : Bool :=
  portOk p && ((decide (k = 1) && quadOk qs && decide (nm.size = 0)) || (decide (k = 3) && nameOk nm && decide (qs.length = 0)))
def num2 (p : Int) : List Int := [p / 256, p % 256]
/-- The bytes of an address. -/
def adB (k : Int) (qs : List Int) (nm : ByteArray) (p : Int) : List Int := if k = 1 then 1 :: (qs ++ num2 p) else k :: (nm.size : Int) :: (numsOf nm ++ num2 p)
def adL (k : Int) (qs : List Int) (nm : ByteArray) (p : Int) : List Int := if adOk k qs nm p = true then adB k qs nm p else []

theorem portOk_range {p : Int} (h : portOk p = true) : 0 ≤ p ∧ p ≤ 65535 := by simpa [portOk, inR] using h
theorem quadOk_parts {qs : List Int} (h : quadOk qs = true) : qs.length = 4 ∧ ∀ x ∈ qs, 0 ≤ x ∧ x ≤ 255 := by
  simp only [quadOk, Bool.and_eq_true, decide_eq_true_eq] at h
  exact ⟨h.1, bytes_of_valid h.2⟩
theorem adOk_quad {k : Int} {qs : List Int} {nm : ByteArray} {p : Int} (h : adOk k qs nm p = true) (hk : k = 1) : portOk p = true ∧ quadOk qs = true ∧ nm.size = 0 := by
  subst hk
  simp [adOk] at h
  exact ⟨h.1, h.2.1, by rw [h.2.2]; rfl⟩
theorem adOk_name {k : Int} {qs : List Int} {nm : ByteArray} {p : Int} (h : adOk k qs nm p = true) (hk : k ≠ 1) : k = 3 ∧ portOk p = true ∧ nameOk nm = true ∧ qs = [] := by
  simp [adOk, hk] at h
  obtain ⟨h1, ⟨h2, h3⟩, h4⟩ := h
  exact ⟨h2, h1, h3, h4⟩
theorem adOk_kind {k : Int} {qs : List Int} {nm : ByteArray} {p : Int} (h : adOk k qs nm p = true) : k = 1 ∨ k = 3 := by
  by_cases hk : k = 1
  · exact .inl hk
  · exact .inr (adOk_name h hk).1
theorem adOk_port {k : Int} {qs : List Int} {nm : ByteArray} {p : Int} (h : adOk k qs nm p = true) : 0 ≤ p ∧ p ≤ 65535 := by
  simp only [adOk, Bool.and_eq_true] at h
  exact portOk_range h.1
theorem adOk_sizes {k : Int} {qs : List Int} {nm : ByteArray} {p : Int} (h : adOk k qs nm p = true) : qs.length ≤ 4 ∧ nm.size ≤ 20 := by
  by_cases hk : k = 1
  · obtain ⟨_, h2, h3⟩ := adOk_quad h hk
    have := (quadOk_parts h2).1
    omega
  · obtain ⟨_, _, h2, h3⟩ := adOk_name h hk
    have := nameOk_size h2
    rw [h3]
    simp
    omega
theorem num2_bytes {p : Int} (h : 0 ≤ p ∧ p ≤ 65535) : ∀ x ∈ num2 p, 0 ≤ x ∧ x ≤ 255 := by
  intro x hx
  simp [num2] at hx
  omega
theorem adB_quad (qs : List Int) (nm : ByteArray) (p : Int) : adB 1 qs nm p = 1 :: (qs ++ num2 p) := by simp [adB]
theorem adB_name (k : Int) (hk : k ≠ 1) (qs : List Int) (nm : ByteArray) (p : Int) : adB k qs nm p = k :: (nm.size : Int) :: (numsOf nm ++ num2 p) := by simp [adB, hk]
theorem adB_length {k : Int} {qs : List Int} {nm : ByteArray} {p : Int} (h : adOk k qs nm p = true) : 4 ≤ (adB k qs nm p).length ∧ (adB k qs nm p).length ≤ 24 ∧ (k = 1 → (adB k qs nm p).length = 7) ∧ (k ≠ 1 → (adB k qs nm p).length = 4 + nm.size) := by
  by_cases hk : k = 1
  · obtain ⟨_, h2, _⟩ := adOk_quad h hk
    have h4 := (quadOk_parts h2).1
    subst hk
    rw [adB_quad]
    simp [num2, h4]
  · obtain ⟨_, _, h2, _⟩ := adOk_name h hk
    have := nameOk_size h2
    rw [adB_name k hk]
    simp [num2, numsOf_length, hk]
    omega
theorem adB_bytes {k : Int} {qs : List Int} {nm : ByteArray} {p : Int} (h : adOk k qs nm p = true) : ∀ x ∈ adB k qs nm p, 0 ≤ x ∧ x ≤ 255 := by
  intro x hx
  have hp := num2_bytes (adOk_port h)
  by_cases hk : k = 1
  · obtain ⟨_, h2, _⟩ := adOk_quad h hk
    subst hk
    rw [adB_quad] at hx
    simp only [List.mem_cons, List.mem_append] at hx
    rcases hx with rfl | hx | hx
    · omega
    · exact (quadOk_parts h2).2 x hx
    · exact hp x hx
  · obtain ⟨h3, _, h2, _⟩ := adOk_name h hk
    have := nameOk_size h2
    rw [adB_name k hk] at hx
    simp only [List.mem_cons, List.mem_append] at hx
    rcases hx with rfl | rfl | hx | hx
    · omega
    · omega
    · exact numsOf_bytes nm x hx
    · exact hp x hx
theorem adL_ok {k : Int} {qs : List Int} {nm : ByteArray} {p : Int} (h : adOk k qs nm p = true) : adL k qs nm p = adB k qs nm p := by simp [adL, h]
theorem adL_not {k : Int} {qs : List Int} {nm : ByteArray} {p : Int} (h : adOk k qs nm p = false) : adL k qs nm p = [] := by simp [adL, h]

/-! what bytes begin with -/
def aN (t : List Int) : Nat := if t.getD 0 0 = 1 then 7 else 4 + (t.getD 1 0).toNat
def aQ (t : List Int) : List Int := if t.getD 0 0 = 1 then (t.drop 1).take 4 else []
def aM (t : List Int) : ByteArray := if t.getD 0 0 = 1 then ByteArray.empty else strOfNums ((t.drop 2).take (t.getD 1 0).toNat)
def aP (t : List Int) : Int := 256 * t.getD (aN t - 2) 0 + t.getD (aN t - 1) 0
def aIn (t : List Int) : Bool := (decide (t.getD 0 0 = 1) || (decide (t.getD 0 0 = 3) && decide (2 ≤ t.length))) && decide (aN t ≤ t.length)
/-- Valid bytes begin with an address. -/
def afOk (t : List Int) : Bool := aIn t && adOk (t.getD 0 0) (aQ t) (aM t) (aP t)

theorem getD_app {a b : List Int} {j : Nat} (h : j < a.length) : (a ++ b).getD j 0 = a.getD j 0 := by simp [List.getD, List.getElem?_append_left h]
theorem getD_past {a b : List Int} {j : Nat} (h : a.length ≤ j) : (a ++ b).getD j 0 = b.getD (j - a.length) 0 := by simp [List.getD, List.getElem?_append_right h]

/-- The bytes of an address begin with it. -/
theorem ad_back {k : Int} {qs : List Int} {nm : ByteArray} {p : Int} (h : adOk k qs nm p = true) (t : List Int) :
    afOk (adB k qs nm p ++ t) = true ∧ (adB k qs nm p ++ t).getD 0 0 = k ∧ aN (adB k qs nm p ++ t) = (adB k qs nm p).length ∧ aQ (adB k qs nm p ++ t) = qs ∧ aM (adB k qs nm p ++ t) = nm ∧ aP (adB k qs nm p ++ t) = p := by
  have hp := adOk_port h
  have hlen := adB_length h
  by_cases hk : k = 1
  · obtain ⟨_, h2, h3⟩ := adOk_quad h hk
    obtain ⟨h4, _⟩ := quadOk_parts h2
    subst hk
    have hL : (adB 1 qs nm p).length = 7 := hlen.2.2.1 rfl
    have e0 : (adB 1 qs nm p ++ t).getD 0 0 = 1 := by simp [adB]
    have eN : aN (adB 1 qs nm p ++ t) = 7 := by rw [aN, if_pos e0]
    have eQ : aQ (adB 1 qs nm p ++ t) = qs := by
      rw [aQ, if_pos e0, adB_quad]
      simp [← h4]
    have hnm : nm = ByteArray.empty := ByteArray.ext (Array.eq_empty_of_size_eq_zero h3)
    have eM : aM (adB 1 qs nm p ++ t) = nm := by rw [aM, if_pos e0, hnm]
    have eP : aP (adB 1 qs nm p ++ t) = p := by
      rw [aP, eN, adB_quad]
      match qs, h4 with
      | [a, b, c, d], _ =>
        simp [num2]
        omega
    refine ⟨?_, e0, by rw [eN, hL], eQ, eM, eP⟩
    rw [afOk, e0, eQ, eM, eP, h, aIn, e0, eN]
    simp [hL]
  · obtain ⟨h3, _, h2, h4⟩ := adOk_name h hk
    have hs := nameOk_size h2
    have hL : (adB k qs nm p).length = 4 + nm.size := hlen.2.2.2 hk
    have e0 : (adB k qs nm p ++ t).getD 0 0 = k := by rw [adB_name k hk]; simp
    have e1 : (adB k qs nm p ++ t).getD 1 0 = (nm.size : Int) := by rw [adB_name k hk]; simp
    have ne : ¬ (adB k qs nm p ++ t).getD 0 0 = 1 := by rw [e0]; exact hk
    have eN : aN (adB k qs nm p ++ t) = 4 + nm.size := by rw [aN, if_neg ne, e1, Int.toNat_natCast]
    have eQ : aQ (adB k qs nm p ++ t) = qs := by rw [aQ, if_neg ne, h4]
    have hn : (numsOf nm).length = nm.size := numsOf_length nm
    have eM : aM (adB k qs nm p ++ t) = nm := by
      rw [aM, if_neg ne, e1, Int.toNat_natCast, adB_name k hk]
      have : ((k :: (nm.size : Int) :: (numsOf nm ++ num2 p) ++ t).drop 2).take nm.size = numsOf nm := by
        simp [← hn]
      rw [this, str_numsOf]
    have eP : aP (adB k qs nm p ++ t) = p := by
      rw [aP, eN]
      have f : ∀ j, (adB k qs nm p ++ t).getD (2 + nm.size + j) 0 = (num2 p ++ t).getD j 0 := by
        intro j
        rw [adB_name k hk]
        have : (k :: (nm.size : Int) :: (numsOf nm ++ num2 p) ++ t) = (k :: (nm.size : Int) :: numsOf nm) ++ (num2 p ++ t) := by simp
        rw [this, getD_past (by simp [hn]; omega)]
        congr 1
        simp [hn]
        omega
      have f0 := f 0
      have f1 := f 1
      rw [show 4 + nm.size - 2 = 2 + nm.size + 0 by omega, show 4 + nm.size - 1 = 2 + nm.size + 1 by omega, f0, f1]
      simp [num2]
      omega
    refine ⟨?_, e0, by rw [eN, hL], eQ, eM, eP⟩
    have l2 : 2 ≤ (adB k qs nm p ++ t).length := by rw [List.length_append, hL]; omega
    have l4 : 4 + nm.size ≤ (adB k qs nm p ++ t).length := by rw [List.length_append, hL]; omega
    rw [afOk, e0, eQ, eM, eP, h, aIn, e0, eN, decide_eq_true h3, decide_eq_true l2, decide_eq_true l4]
    simp

/-- Bytes that begin with an address begin with its bytes. -/
theorem ad_fore {t : List Int} (hb : ∀ x ∈ t, 0 ≤ x ∧ x ≤ 255) (h : afOk t = true) : adB (t.getD 0 0) (aQ t) (aM t) (aP t) = t.take (aN t) := by
  simp only [afOk, Bool.and_eq_true] at h
  obtain ⟨hin, hok⟩ := h
  simp only [aIn, Bool.and_eq_true, decide_eq_true_eq] at hin
  obtain ⟨hk, hl⟩ := hin
  have hbd : ∀ j, j < t.length → 0 ≤ t.getD j 0 ∧ t.getD j 0 ≤ 255 := fun j hj => by
    have := hb t[j] (List.getElem_mem hj)
    simpa [List.getD, hj] using this
  have two : ∀ n : Nat, 2 ≤ n → n ≤ t.length → num2 (256 * t.getD (n - 2) 0 + t.getD (n - 1) 0) = (t.drop (n - 2)).take 2 := by
    intro n h2 hn
    have a := hbd (n - 2) (by omega)
    have b := hbd (n - 1) (by omega)
    rw [num2, show (256 * t.getD (n - 2) 0 + t.getD (n - 1) 0) / 256 = t.getD (n - 2) 0 by omega, show (256 * t.getD (n - 2) 0 + t.getD (n - 1) 0) % 256 = t.getD (n - 1) 0 by omega]
    rw [List.drop_eq_getElem_cons (by omega : n - 2 < t.length), List.take_succ_cons]
    have e : n - 2 + 1 = n - 1 := by omega
    rw [e, List.drop_eq_getElem_cons (by omega : n - 1 < t.length), List.take_succ_cons, List.take_zero]
    simp [List.getD, (by omega : n - 2 < t.length), (by omega : n - 1 < t.length)]
  by_cases h1 : t.getD 0 0 = 1
  · have eN : aN t = 7 := by rw [aN, if_pos h1]
    have eQ : aQ t = (t.drop 1).take 4 := by rw [aQ, if_pos h1]
    rw [eN] at hl
    have e2 := two 7 (by omega) hl
    rw [aP, eN, h1, adB_quad, e2, eQ]
    have h0 : t.take 7 = t.take 1 ++ ((t.drop 1).take 4 ++ (t.drop 5).take 2) := by
      rw [show t.take 7 = t.take (1 + (4 + 2)) by rfl, List.take_add, List.take_add, List.drop_drop]
    have h00 : t.take 1 = [1] := by
      cases t with
      | nil => simp at hl
      | cons x r => simp at h1; simp [h1]
    rw [h0, h00]
    rfl
  · have h3 : t.getD 0 0 = 3 ∧ 2 ≤ t.length := by
      rw [decide_eq_false h1] at hk
      simpa using hk
    have h2l := h3.2
    have b1 := hbd 1 (by omega)
    obtain ⟨m, hm⟩ : ∃ m : Nat, t.getD 1 0 = (m : Int) := ⟨_, (Int.toNat_of_nonneg b1.1).symm⟩
    have eN : aN t = 4 + m := by rw [aN, if_neg h1, hm, Int.toNat_natCast]
    rw [eN] at hl
    have eM : aM t = strOfNums ((t.drop 2).take m) := by rw [aM, if_neg h1, hm, Int.toNat_natCast]
    have hml : ((t.drop 2).take m).length = m := by simp; omega
    have hmb : ∀ x ∈ (t.drop 2).take m, 0 ≤ x ∧ x ≤ 255 := fun x hx => hb x (List.mem_of_mem_drop (List.mem_of_mem_take hx))
    have e2 := two (4 + m) (by omega) hl
    rw [aP, eN, adB_name _ h1, e2, eM, numsOf_str hmb, str_length, hml, h3.1]
    have h0 : t.take (4 + m) = t.take 2 ++ ((t.drop 2).take m ++ (t.drop (2 + m)).take 2) := by
      rw [show 4 + m = 2 + (m + 2) by omega, List.take_add, List.take_add, List.drop_drop]
    have h00 : t.take 2 = [3, (m : Int)] := by
      match t, h2l with
      | x :: y :: r, _ =>
        have hx : x = 3 := by simpa using h3.1
        have hy : y = (m : Int) := by simpa using hm
        simp [hx, hy]
    rw [h0, h00, show 4 + m - 2 = 2 + m by omega]
    rfl

/-- No part of an address's bytes begins with an address. -/
theorem ad_part {k : Int} {qs : List Int} {nm : ByteArray} {p : Int} (h : adOk k qs nm p = true) {j : Nat} (hj : j < (adB k qs nm p).length) : afOk ((adB k qs nm p).take j) = false := by
  obtain ⟨L, hL⟩ : ∃ L, adB k qs nm p = L := ⟨_, rfl⟩
  have hlen := adB_length h
  have e := ad_back h []
  rw [List.append_nil, hL] at e
  rw [hL] at hj hlen ⊢
  obtain ⟨_, e0, eN, _⟩ := e
  have hl : (L.take j).length = j := by simp; omega
  have g0 : (L.take j).getD 0 0 = if 0 < j then k else 0 := by
    by_cases h0 : 0 < j
    · rw [if_pos h0, ← e0]
      simp [List.getD, h0]
    · rw [if_neg h0]
      have : j = 0 := by omega
      subst this
      simp
  have hin : aIn (L.take j) = false := by
    unfold aIn
    rw [hl]
    rcases adOk_kind h with hk | hk
    · by_cases h0 : 0 < j
      · rw [if_pos h0, hk] at g0
        have : aN (L.take j) = 7 := by rw [aN, if_pos g0]
        rw [this]
        have := hlen.2.2.1 hk
        have : ¬ 7 ≤ j := by omega
        simp [this]
      · rw [if_neg h0] at g0
        rw [g0]
        simp
    · by_cases h1 : 2 ≤ j
      · have g1 : (L.take j).getD 1 0 = L.getD 1 0 := by simp [List.getD, (by omega : 1 < j)]
        rw [if_pos (by omega), hk] at g0
        have n1 : ¬ (L.take j).getD 0 0 = 1 := by rw [g0]; omega
        have n2 : ¬ L.getD 0 0 = 1 := by rw [e0, hk]; omega
        have : aN (L.take j) = aN L := by rw [aN, aN, if_neg n1, if_neg n2, g1]
        rw [this, eN]
        have : ¬ L.length ≤ j := by omega
        simp [this]
      · have n1 : ¬ (L.take j).getD 0 0 = 1 := by
          rw [g0]
          split <;> omega
        rw [decide_eq_false n1, decide_eq_false h1]
        simp
  rw [afOk, hin]
  rfl
end Go.Proofs.YtpcflkdeoafpeaaDoor
namespace Go.Proofs.YtpcflkdeoafpeaaDoor
open Go.RowKit

def raK (zs : List Int) (s : Nat × Bool) : Int := rByte zs s
def raS1 (zs : List Int) (s : Nat × Bool) : Nat × Bool := rNext zs s 1
def raQ (zs : List Int) (s : Nat × Bool) : List Int := if raK zs s = 1 then rGot zs (raS1 zs s) 4 else []
def raM (zs : List Int) (s : Nat × Bool) : ByteArray := if raK zs s = 3 then strOfNums (rText zs (raS1 zs s)) else ByteArray.empty
def raS2 (zs : List Int) (s : Nat × Bool) : Nat × Bool := if raK zs s = 1 then rNext zs (raS1 zs s) 4 else if raK zs s = 3 then rTextN zs (raS1 zs s) else raS1 zs s
/-- The number of two bytes. -/
def rNum2 (zs : List Int) (s : Nat × Bool) : Int := 256 * (rGot zs s 2).getD 0 0 + (rGot zs s 2).getD 1 0
def raP (zs : List Int) (s : Nat × Bool) : Int := rNum2 zs (raS2 zs s)
def raS3 (zs : List Int) (s : Nat × Bool) : Nat × Bool := rNext zs (raS2 zs s) 2
def raOk (zs : List Int) (s : Nat × Bool) : Bool := adOk (raK zs s) (raQ zs s) (raM zs s) (raP zs s)
/-- The reader behind an address. -/
def raEnd (zs : List Int) (s : Nat × Bool) : Nat × Bool := ((raS3 zs s).1, (raS3 zs s).2 || !raOk zs s)

theorem rNext_bad' {zs : List Int} {s : Nat × Bool} (h : s.2 = true) (n : Nat) : (rNext zs s n).2 = true := rNext_after_bad h n
theorem raEnd_bad {zs : List Int} {s : Nat × Bool} (h : s.2 = true) : (raEnd zs s).2 = true := by
  have h1 : (raS1 zs s).2 = true := rNext_after_bad h 1
  have h2 : (raS2 zs s).2 = true := by
    unfold raS2
    split
    · exact rNext_after_bad h1 4
    · split
      · exact rTextN_bad h1
      · exact h1
  have h3 : (raS3 zs s).2 = true := rNext_after_bad h2 2
  show ((raS3 zs s).2 || !raOk zs s) = true
  rw [h3]
  rfl
theorem RFit.text {zs : List Int} {s : Nat × Bool} (hf : RFit zs s) : RFit zs (rTextN zs s) := (hf.next 1).next _
theorem raS2_fit {zs : List Int} {s : Nat × Bool} (hf : RFit zs s) : RFit zs (raS2 zs s) := by
  unfold raS2
  split
  · exact (hf.next 1).next 4
  · split
    · exact (hf.next 1).text
    · exact hf.next 1
theorem drop_getD (zs : List Int) (p j : Nat) : (zs.drop p).getD j 0 = zs.getD (p + j) 0 := by simp [List.getD, List.getElem?_drop]
theorem rNum2_good {zs : List Int} {p : Nat} (h : p + 2 ≤ zs.length) : rNum2 zs (p, false) = 256 * zs.getD p 0 + zs.getD (p + 1) 0 := by
  rw [rNum2, rGot_good h]
  simp [List.getD, List.getElem?_drop]

/-- The reader that has not failed, at p: the address that the bytes from p on begin with, or it fails. -/
theorem raEnd_at {zs : List Int} {p : Nat} (hv : validL zs = true) (hp : p ≤ zs.length) :
    (afOk (zs.drop p) = true → raEnd zs (p, false) = (p + aN (zs.drop p), false) ∧ raK zs (p, false) = (zs.drop p).getD 0 0 ∧ raQ zs (p, false) = aQ (zs.drop p) ∧ raM zs (p, false) = aM (zs.drop p) ∧ raP zs (p, false) = aP (zs.drop p)) ∧
    (afOk (zs.drop p) = false → (raEnd zs (p, false)).2 = true) := by
  have hfit : RFit zs (p, false) := ⟨hp, fun _ => hv⟩
  have hlen : (zs.drop p).length = zs.length - p := by simp
  have eK : raK zs (p, false) = (zs.drop p).getD 0 0 := by
    rw [drop_getD, Nat.add_zero]
    by_cases h : p + 1 ≤ zs.length
    · exact rByte_good h
    · rw [raK, rByte_long (by omega)]
      simp [List.getD, (by omega : zs.length ≤ p)]
  by_cases h1 : p + 1 ≤ zs.length
  case neg =>
    have e0 : (zs.drop p).getD 0 0 = 0 := by rw [drop_getD]; simp [List.getD, (by omega : zs.length ≤ p)]
    have hb : (raEnd zs (p, false)).2 = true := by
      have hs1 : (raS1 zs (p, false)).2 = true := by rw [raS1, rNext_long (by omega)]
      have hs2 : raS2 zs (p, false) = raS1 zs (p, false) := by
        rw [raS2, eK, e0]
        simp
      have h3 : (raS3 zs (p, false)).2 = true := by rw [raS3, hs2]; exact rNext_after_bad hs1 2
      show ((raS3 zs (p, false)).2 || !raOk zs (p, false)) = true
      rw [h3]
      rfl
    refine ⟨fun h => ?_, fun _ => hb⟩
    rw [afOk, aIn, e0] at h
    simp at h
  have e1 : raS1 zs (p, false) = (p + 1, false) := rNext_good h1
  by_cases hk1 : (zs.drop p).getD 0 0 = 1
  · have eN : aN (zs.drop p) = 7 := by rw [aN, if_pos hk1]
    by_cases h7 : p + 7 ≤ zs.length
    · have e2 : raS2 zs (p, false) = (p + 5, false) := by rw [raS2, eK, if_pos hk1, e1, rNext_good (by omega)]
      have eQ : raQ zs (p, false) = aQ (zs.drop p) := by rw [raQ, eK, if_pos hk1, e1, rGot_good (by omega), aQ, if_pos hk1, List.drop_drop]
      have eM : raM zs (p, false) = aM (zs.drop p) := by rw [raM, eK, hk1, aM, if_pos hk1]; rfl
      have eP : raP zs (p, false) = aP (zs.drop p) := by rw [raP, e2, rNum2_good (by omega), aP, eN, drop_getD, drop_getD]
      have e3 : raS3 zs (p, false) = (p + 7, false) := by rw [raS3, e2, rNext_good (by omega)]
      have eO : raOk zs (p, false) = afOk (zs.drop p) := by
        rw [raOk, eK, eQ, eM, eP, afOk, aIn, eN, hlen, hk1, decide_eq_true (by omega : 7 ≤ zs.length - p)]
        simp
      refine ⟨fun h => ⟨?_, eK, eQ, eM, eP⟩, fun h => ?_⟩
      · rw [raEnd, e3, eO, h, eN]; rfl
      · rw [raEnd, e3, eO, h]; rfl
    · have hf : afOk (zs.drop p) = false := by
        rw [afOk, aIn, eN, hlen, decide_eq_false (by omega : ¬ 7 ≤ zs.length - p)]
        simp
      refine ⟨fun h => (by rw [hf] at h; cases h), fun _ => ?_⟩
      have h3 : (raS3 zs (p, false)).2 = true := by
        rw [raS3, raS2, eK, if_pos hk1, e1]
        by_cases h5 : p + 5 ≤ zs.length
        · rw [rNext_good (by omega), rNext_long (by omega)]
        · exact rNext_after_bad (by rw [rNext_long (by omega)]) 2
      show ((raS3 zs (p, false)).2 || !raOk zs (p, false)) = true
      rw [h3]
      rfl
  by_cases hk3 : (zs.drop p).getD 0 0 = 3
  · obtain ⟨m, hm⟩ : ∃ m : Nat, m = ((zs.drop p).getD 1 0).toNat := ⟨_, rfl⟩
    have eN : aN (zs.drop p) = 4 + m := by rw [aN, if_neg hk1, hm]
    have hg1 : zs.getD (p + 1) 0 = (zs.drop p).getD 1 0 := (drop_getD zs p 1).symm
    by_cases hT : p + 4 + m ≤ zs.length ∧ p + 2 ≤ zs.length
    · obtain ⟨eT, eG⟩ := rTextN_good (zs := zs) (p := p + 1) (by rw [hg1, ← hm]; omega)
      rw [hg1, ← hm] at eT eG
      have e2 : raS2 zs (p, false) = (p + 2 + m, false) := by
        rw [raS2, eK, if_neg hk1, if_pos hk3, e1, eT]
      have eQ : raQ zs (p, false) = aQ (zs.drop p) := by rw [raQ, eK, if_neg hk1, aQ, if_neg hk1]
      have eM : raM zs (p, false) = aM (zs.drop p) := by
        rw [raM, eK, if_pos hk3, aM, if_neg hk1, e1, eG, List.drop_drop, ← hm]
      have eP : raP zs (p, false) = aP (zs.drop p) := by
        rw [raP, e2, rNum2_good (by omega), aP, eN, drop_getD, drop_getD]
        rw [show p + (4 + m - 2) = p + 2 + m by omega, show p + (4 + m - 1) = p + 2 + m + 1 by omega]
      have e3 : raS3 zs (p, false) = (p + 4 + m, false) := by
        rw [raS3, e2, rNext_good (by omega)]
        congr 1
        omega
      have eO : raOk zs (p, false) = afOk (zs.drop p) := by
        rw [raOk, eK, eQ, eM, eP, afOk, aIn, eN, hlen, hk3, decide_eq_true (by omega : 4 + m ≤ zs.length - p), decide_eq_true (by omega : 2 ≤ zs.length - p)]
        simp
      refine ⟨fun h => ⟨?_, eK, eQ, eM, eP⟩, fun h => ?_⟩
      · rw [raEnd, e3, eO, h, eN, Nat.add_assoc]; rfl
      · rw [raEnd, e3, eO, h]; rfl
    · have hf : afOk (zs.drop p) = false := by
        rw [afOk, aIn, eN, hlen, hk3]
        by_cases h2 : 2 ≤ zs.length - p
        · rw [decide_eq_false (by omega : ¬ 4 + m ≤ zs.length - p)]
          simp
        · rw [decide_eq_false h2]
          simp
      refine ⟨fun h => (by rw [hf] at h; cases h), fun _ => ?_⟩
      have h3 : (raS3 zs (p, false)).2 = true := by
        rw [raS3, raS2, eK, if_neg hk1, if_pos hk3, e1]
        by_cases h2 : p + 1 + 1 + m ≤ zs.length
        · obtain ⟨eT, _⟩ := rTextN_good (zs := zs) (p := p + 1) (by rw [hg1, ← hm]; omega)
          rw [hg1, ← hm] at eT
          rw [eT, rNext_long (by omega)]
        · exact rNext_after_bad (rTextN_long (by rw [hg1, ← hm]; omega)) 2
      show ((raS3 zs (p, false)).2 || !raOk zs (p, false)) = true
      rw [h3]
      rfl
  have hf : afOk (zs.drop p) = false := by
    rw [afOk, aIn, decide_eq_false hk1, decide_eq_false hk3]
    simp
  refine ⟨fun h => (by rw [hf] at h; cases h), fun _ => ?_⟩
  have hO : raOk zs (p, false) = false := by
    rw [raOk, eK, adOk, decide_eq_false hk1, decide_eq_false hk3]
    simp
  show ((raS3 zs (p, false)).2 || !raOk zs (p, false)) = true
  rw [hO]
  simp

/-! a code and an address: 5, the code, 0, the address -/
def cfOk (zs : List Int) : Bool := validL zs && decide (3 ≤ zs.length) && decide (zs.getD 0 0 = 5) && decide (zs.getD 2 0 = 0) && afOk (zs.drop 3)
def cfS1 (zs : List Int) : Nat × Bool := rTold zs (rStart zs) [5]
def cfS2 (zs : List Int) : Nat × Bool := rNext zs (cfS1 zs) 1
def cfS3 (zs : List Int) : Nat × Bool := rTold zs (cfS2 zs) [0]
def cfEnd (zs : List Int) : Nat × Bool := raEnd zs (cfS3 zs)
theorem rTold_after_bad {zs : List Int} {s : Nat × Bool} (h : s.2 = true) (L : List Int) : (rTold zs s L).2 = true := by
  obtain ⟨p, b⟩ := s
  simp only at h
  subst h
  rw [rTold_bad]
theorem told_one {zs : List Int} {p : Nat} (c : Int) (h : p + 1 ≤ zs.length) (h0 : zs.getD p 0 = c) : rTold zs (p, false) [c] = (p + 1, false) := by
  refine rTold_good (by simpa using h) ?_
  rw [List.length_singleton, List.drop_eq_getElem_cons (by omega : p < zs.length), List.take_succ_cons, List.take_zero]
  simp [List.getD, (by omega : p < zs.length)] at h0
  rw [h0]
theorem told_one_not {zs : List Int} {p : Nat} (c : Int) (h : p + 1 ≤ zs.length → zs.getD p 0 ≠ c) : (rTold zs (p, false) [c]).2 = true := by
  by_cases hl : p + 1 ≤ zs.length
  · rw [rTold_other (by simpa using hl) (by
      rw [List.length_singleton, List.drop_eq_getElem_cons (by omega : p < zs.length), List.take_succ_cons, List.take_zero]
      intro he
      injection he with he
      exact h hl (by simp [List.getD, (by omega : p < zs.length), he]))]
  · rw [rTold_long (by rw [List.length_singleton]; omega)]
theorem cf_front {zs : List Int} (hv : validL zs = true) (hl : 3 ≤ zs.length) (h0 : zs.getD 0 0 = 5) (h2 : zs.getD 2 0 = 0) : cfS1 zs = (1, false) ∧ cfS2 zs = (2, false) ∧ cfS3 zs = (3, false) := by
  have e1 : cfS1 zs = (1, false) := told1 5 hv (by omega) h0
  have e2 : cfS2 zs = (2, false) := by rw [cfS2, e1, rNext_good (by omega)]
  exact ⟨e1, e2, by rw [cfS3, e2, told_one 0 (by omega) h2]⟩
theorem cf_state {zs : List Int} (h : cfOk zs = true) :
    cfEnd zs = (3 + aN (zs.drop 3), false) ∧ rByte zs (cfS1 zs) = zs.getD 1 0 ∧ raK zs (cfS3 zs) = (zs.drop 3).getD 0 0 ∧ raQ zs (cfS3 zs) = aQ (zs.drop 3) ∧ raM zs (cfS3 zs) = aM (zs.drop 3) ∧ raP zs (cfS3 zs) = aP (zs.drop 3) := by
  simp only [cfOk, Bool.and_eq_true, decide_eq_true_eq] at h
  obtain ⟨⟨⟨⟨hv, hl⟩, h0⟩, h2⟩, ha⟩ := h
  obtain ⟨e1, e2, e3⟩ := cf_front hv hl h0 h2
  obtain ⟨f1, f2, f3, f4, f5⟩ := (raEnd_at hv hl).1 ha
  rw [cfEnd, e3, e1]
  exact ⟨f1, rByte_good (by omega), f2, f3, f4, f5⟩
theorem cf_bad {zs : List Int} (h : cfOk zs = false) : (cfEnd zs).2 = true := by
  cases hv : validL zs
  · have hs : rStart zs = (0, true) := by simp [rStart, hv]
    refine raEnd_bad (rTold_after_bad (rNext_after_bad ?_ 1) _)
    rw [cfS1, hs, rTold_bad]
  have hs : rStart zs = (0, false) := by simp [rStart, hv]
  by_cases h0 : 1 ≤ zs.length ∧ zs.getD 0 0 = 5
  case neg =>
    refine raEnd_bad (rTold_after_bad (rNext_after_bad ?_ 1) _)
    rw [cfS1, hs]
    exact told_one_not 5 fun hl he => h0 ⟨by omega, he⟩
  have e1 : cfS1 zs = (1, false) := told1 5 hv h0.1 h0.2
  by_cases h1 : 2 ≤ zs.length
  case neg =>
    refine raEnd_bad (rTold_after_bad ?_ _)
    rw [cfS2, e1, rNext_long (by omega)]
  have e2 : cfS2 zs = (2, false) := by rw [cfS2, e1, rNext_good (by omega)]
  by_cases h2 : 3 ≤ zs.length ∧ zs.getD 2 0 = 0
  case neg =>
    refine raEnd_bad ?_
    rw [cfS3, e2]
    exact told_one_not 0 fun hl he => h2 ⟨by omega, he⟩
  obtain ⟨_, _, e3⟩ := cf_front hv h2.1 h0.2 h2.2
  rw [cfEnd, e3]
  refine (raEnd_at hv h2.1).2 ?_
  rw [cfOk, hv, decide_eq_true h2.1, decide_eq_true h0.2, decide_eq_true h2.2] at h
  simpa using h
/-- Whether the program's reader has failed behind a code and an address. -/
theorem cf_ok (zs : List Int) : (!(cfEnd zs).2) = cfOk zs := by
  cases h : cfOk zs
  · rw [cf_bad h]; rfl
  · rw [(cf_state h).1]; rfl
end Go.Proofs.YtpcflkdeoafpeaaDoor
namespace Go.Proofs.YtpcflkdeoafpeaaDoor
open Go.RowKit

def fragOk (f : Int) : Bool := inR f 0 255 && !decide (f = 128)
def dataOk (ds : List Int) : Bool := decide (ds.length ≤ 40) && validL ds
/-- A valid packet. -/
def pkOk (f k : Int) (qs : List Int) (nm : ByteArray) (p : Int) (ds : List Int) : Bool := fragOk f && adOk k qs nm p && dataOk ds
def pkB (f k : Int) (qs : List Int) (nm : ByteArray) (p : Int) (ds : List Int) : List Int := 0 :: 0 :: f :: (adB k qs nm p ++ ds)
def pkL (f k : Int) (qs : List Int) (nm : ByteArray) (p : Int) (ds : List Int) : List Int := if pkOk f k qs nm p ds = true then pkB f k qs nm p ds else []
theorem pkL_ok {f k : Int} {qs : List Int} {nm : ByteArray} {p : Int} {ds : List Int} (h : pkOk f k qs nm p ds = true) : pkL f k qs nm p ds = pkB f k qs nm p ds := by simp [pkL, h]
theorem pkL_not {f k : Int} {qs : List Int} {nm : ByteArray} {p : Int} {ds : List Int} (h : pkOk f k qs nm p ds = false) : pkL f k qs nm p ds = [] := by simp [pkL, h]
theorem fragOk_range {f : Int} (h : fragOk f = true) : 0 ≤ f ∧ f ≤ 255 ∧ f ≠ 128 := by
  simp [fragOk, inR] at h
  omega
theorem dataOk_parts {ds : List Int} (h : dataOk ds = true) : ds.length ≤ 40 ∧ ∀ x ∈ ds, 0 ≤ x ∧ x ≤ 255 := by
  simp only [dataOk, Bool.and_eq_true, decide_eq_true_eq] at h
  exact ⟨h.1, bytes_of_valid h.2⟩
theorem dataOk_of {ds : List Int} (h : ds.length ≤ 40) (h2 : ∀ x ∈ ds, 0 ≤ x ∧ x ≤ 255) : dataOk ds = true := by
  rw [dataOk, decide_eq_true h, validL_of (by omega) h2]
  rfl
theorem pkOk_parts {f k : Int} {qs : List Int} {nm : ByteArray} {p : Int} {ds : List Int} (h : pkOk f k qs nm p ds = true) : fragOk f = true ∧ adOk k qs nm p = true ∧ dataOk ds = true := by
  simp only [pkOk, Bool.and_eq_true] at h
  exact ⟨h.1.1, h.1.2, h.2⟩
theorem pkB_length {f k : Int} {qs : List Int} {nm : ByteArray} {p : Int} {ds : List Int} (h : pkOk f k qs nm p ds = true) : (pkB f k qs nm p ds).length ≤ 67 := by
  obtain ⟨_, h2, h3⟩ := pkOk_parts h
  have := adB_length h2
  have := (dataOk_parts h3).1
  simp [pkB]
  omega

/-! what bytes are a packet -/
def ppIn (zs : List Int) : Bool := validL zs && decide (3 ≤ zs.length) && decide (zs.getD 0 0 = 0) && decide (zs.getD 1 0 = 0) && afOk (zs.drop 3)
def ppAt (zs : List Int) : Nat := 3 + aN (zs.drop 3)
def ppD (zs : List Int) : List Int := zs.drop (ppAt zs)
def ppOk (zs : List Int) : Bool := ppIn zs && decide (zs.getD 2 0 ≠ 128) && decide ((ppD zs).length ≤ 40)
def ppS1 (zs : List Int) : Nat × Bool := rTold zs (rStart zs) [0, 0]
def ppS2 (zs : List Int) : Nat × Bool := rNext zs (ppS1 zs) 1
def ppEnd (zs : List Int) : Nat × Bool := raEnd zs (ppS2 zs)
theorem told_two {zs : List Int} {p : Nat} (c d : Int) (h : p + 2 ≤ zs.length) (h0 : zs.getD p 0 = c) (h1 : zs.getD (p + 1) 0 = d) : rTold zs (p, false) [c, d] = (p + 2, false) := by
  refine rTold_good (by simpa using h) ?_
  show (zs.drop p).take 2 = _
  rw [List.drop_eq_getElem_cons (by omega : p < zs.length), List.take_succ_cons, List.drop_eq_getElem_cons (by omega : p + 1 < zs.length), List.take_succ_cons, List.take_zero]
  simp [List.getD, (by omega : p < zs.length)] at h0
  simp [List.getD, (by omega : p + 1 < zs.length)] at h1
  rw [h0, h1]
theorem told_two_not {zs : List Int} {p : Nat} (c d : Int) (h : p + 2 ≤ zs.length → zs.getD p 0 = c → zs.getD (p + 1) 0 ≠ d) : (rTold zs (p, false) [c, d]).2 = true := by
  by_cases hl : p + 2 ≤ zs.length
  · rw [rTold_other (by simpa using hl) (by
      show (zs.drop p).take 2 ≠ _
      rw [List.drop_eq_getElem_cons (by omega : p < zs.length), List.take_succ_cons, List.drop_eq_getElem_cons (by omega : p + 1 < zs.length), List.take_succ_cons, List.take_zero]
      intro he
      injection he with he1 he2
      injection he2 with he2
      exact h hl (by simp [List.getD, (by omega : p < zs.length), he1]) (by simp [List.getD, (by omega : p + 1 < zs.length), he2]))]
  · rw [rTold_long (by simp; omega)]
theorem pp_state {zs : List Int} (h : ppIn zs = true) :
    ppEnd zs = (ppAt zs, false) ∧ rByte zs (ppS1 zs) = zs.getD 2 0 ∧ raK zs (ppS2 zs) = (zs.drop 3).getD 0 0 ∧ raQ zs (ppS2 zs) = aQ (zs.drop 3) ∧ raM zs (ppS2 zs) = aM (zs.drop 3) ∧ raP zs (ppS2 zs) = aP (zs.drop 3) := by
  simp only [ppIn, Bool.and_eq_true, decide_eq_true_eq] at h
  obtain ⟨⟨⟨⟨hv, hl⟩, h0⟩, h1⟩, ha⟩ := h
  have hs : rStart zs = (0, false) := by simp [rStart, hv]
  have e1 : ppS1 zs = (2, false) := by rw [ppS1, hs]; exact told_two 0 0 (by omega) h0 h1
  have e2 : ppS2 zs = (3, false) := by rw [ppS2, e1, rNext_good (by omega)]
  obtain ⟨f1, f2, f3, f4, f5⟩ := (raEnd_at hv hl).1 ha
  rw [ppEnd, e2, e1]
  exact ⟨f1, rByte_good (by omega), f2, f3, f4, f5⟩
theorem pp_bad {zs : List Int} (h : ppIn zs = false) : (ppEnd zs).2 = true := by
  cases hv : validL zs
  · have hs : rStart zs = (0, true) := by simp [rStart, hv]
    refine raEnd_bad (rNext_after_bad ?_ 1)
    rw [ppS1, hs, rTold_bad]
  have hs : rStart zs = (0, false) := by simp [rStart, hv]
  by_cases h0 : 2 ≤ zs.length ∧ zs.getD 0 0 = 0 ∧ zs.getD 1 0 = 0
  case neg =>
    refine raEnd_bad (rNext_after_bad ?_ 1)
    rw [ppS1, hs]
    exact told_two_not 0 0 fun hl he he2 => h0 ⟨by omega, he, he2⟩
  have e1 : ppS1 zs = (2, false) := by rw [ppS1, hs]; exact told_two 0 0 (by omega) h0.2.1 h0.2.2
  by_cases h1 : 3 ≤ zs.length
  case neg =>
    refine raEnd_bad ?_
    rw [ppS2, e1, rNext_long (by omega)]
  have e2 : ppS2 zs = (3, false) := by rw [ppS2, e1, rNext_good (by omega)]
  rw [ppEnd, e2]
  refine (raEnd_at hv h1).2 ?_
  rw [ppIn, hv, decide_eq_true h1, decide_eq_true h0.2.1, decide_eq_true h0.2.2] at h
  simpa using h
theorem pp_in (zs : List Int) : (!(ppEnd zs).2) = ppIn zs := by
  cases h : ppIn zs
  · rw [pp_bad h]; rfl
  · rw [(pp_state h).1]; rfl
theorem ppIn_parts {zs : List Int} (h : ppIn zs = true) : validL zs = true ∧ 3 ≤ zs.length ∧ zs.getD 0 0 = 0 ∧ zs.getD 1 0 = 0 ∧ afOk (zs.drop 3) = true := by
  simp only [ppIn, Bool.and_eq_true, decide_eq_true_eq] at h
  exact ⟨h.1.1.1.1, h.1.1.1.2, h.1.1.2, h.1.2, h.2⟩
theorem afOk_parts {t : List Int} (h : afOk t = true) : aN t ≤ t.length ∧ adOk (t.getD 0 0) (aQ t) (aM t) (aP t) = true := by
  simp only [afOk, aIn, Bool.and_eq_true, decide_eq_true_eq] at h
  exact ⟨h.1.2, h.2⟩
theorem ppAt_le {zs : List Int} (h : ppIn zs = true) : ppAt zs ≤ zs.length := by
  obtain ⟨_, h3, _, _, h4⟩ := ppIn_parts h
  have := (afOk_parts h4).1
  simp at this
  unfold ppAt
  omega
/-- What the program's isPacket says of what was read. -/
theorem pp_ok {zs : List Int} (h : ppIn zs = true) : pkOk (zs.getD 2 0) ((zs.drop 3).getD 0 0) (aQ (zs.drop 3)) (aM (zs.drop 3)) (aP (zs.drop 3)) (ppD zs) = (decide (zs.getD 2 0 ≠ 128) && decide ((ppD zs).length ≤ 40)) := by
  obtain ⟨hv, h3, _, _, h4⟩ := ppIn_parts h
  have hb := bytes_of_valid hv
  have h2 := hb (zs.getD 2 0) (by simp [List.getD, (by omega : 2 < zs.length)])
  have hd : validL (ppD zs) = true := by
    have hl := validL_len hv
    refine validL_of (by unfold ppD; simp; omega) fun x hx => hb x (List.mem_of_mem_drop hx)
  rw [pkOk, (afOk_parts h4).2, fragOk, dataOk, hd, inR, decide_eq_true h2.1, decide_eq_true h2.2]
  simp

/-- The bytes of a packet are it. -/
theorem pk_back {f k : Int} {qs : List Int} {nm : ByteArray} {p : Int} {ds : List Int} (h : pkOk f k qs nm p ds = true) :
    ppOk (pkB f k qs nm p ds) = true ∧ (pkB f k qs nm p ds).getD 2 0 = f ∧ ((pkB f k qs nm p ds).drop 3).getD 0 0 = k ∧ aQ ((pkB f k qs nm p ds).drop 3) = qs ∧ aM ((pkB f k qs nm p ds).drop 3) = nm ∧ aP ((pkB f k qs nm p ds).drop 3) = p ∧ ppD (pkB f k qs nm p ds) = ds := by
  obtain ⟨h1, h2, h3⟩ := pkOk_parts h
  have hl := pkB_length h
  have hf := fragOk_range h1
  have hd := dataOk_parts h3
  have e3 : (pkB f k qs nm p ds).drop 3 = adB k qs nm p ++ ds := by simp [pkB]
  obtain ⟨g1, g2, g3, g4, g5, g6⟩ := ad_back h2 ds
  have eD : ppD (pkB f k qs nm p ds) = ds := by
    rw [ppD, ppAt, e3, g3, ← List.drop_drop, e3]
    simp
  have hv : validL (pkB f k qs nm p ds) = true := by
    refine validL_of (by omega) fun x hx => ?_
    simp only [pkB, List.mem_cons, List.mem_append] at hx
    rcases hx with rfl | rfl | rfl | hx | hx
    · omega
    · omega
    · omega
    · exact adB_bytes h2 x hx
    · exact hd.2 x hx
  refine ⟨?_, by simp [pkB], by rw [e3]; exact g2, by rw [e3]; exact g4, by rw [e3]; exact g5, by rw [e3]; exact g6, eD⟩
  have hl3 : 3 ≤ (pkB f k qs nm p ds).length := by simp [pkB]
  have h0 : (pkB f k qs nm p ds).getD 0 0 = 0 := by simp [pkB]
  have h1' : (pkB f k qs nm p ds).getD 1 0 = 0 := by simp [pkB]
  have h2' : (pkB f k qs nm p ds).getD 2 0 = f := by simp [pkB]
  rw [ppOk, ppIn, hv, decide_eq_true hl3, decide_eq_true h0, decide_eq_true h1', e3, g1, h2', decide_eq_true hf.2.2, eD, decide_eq_true hd.1]
  rfl
/-- The packet that bytes are has them. -/
theorem pk_fore {zs : List Int} (h : ppIn zs = true) : pkB (zs.getD 2 0) ((zs.drop 3).getD 0 0) (aQ (zs.drop 3)) (aM (zs.drop 3)) (aP (zs.drop 3)) (ppD zs) = zs := by
  obtain ⟨hv, h3, h0, h1, h4⟩ := ppIn_parts h
  have hb := bytes_of_valid hv
  have e := ad_fore (t := zs.drop 3) (fun x hx => hb x (List.mem_of_mem_drop hx)) h4
  rw [pkB, e, ppD, ppAt, ← List.drop_drop, List.take_append_drop]
  match zs, h3, h0, h1 with
  | a :: b :: c :: r, _, h0, h1 =>
    have ha : a = 0 := by simpa using h0
    have hb' : b = 0 := by simpa using h1
    simp [ha, hb']

/-! a request, a reply -/
def rqOk (c k : Int) (qs : List Int) (nm : ByteArray) (p : Int) : Bool := inR c 1 3 && adOk k qs nm p
def rpOk (c k : Int) (qs : List Int) (nm : ByteArray) (p : Int) : Bool := inR c 0 8 && adOk k qs nm p
def cdB (c k : Int) (qs : List Int) (nm : ByteArray) (p : Int) : List Int := 5 :: c :: 0 :: adB k qs nm p
theorem cdB_length {c k : Int} {qs : List Int} {nm : ByteArray} {p : Int} (h : adOk k qs nm p = true) : 7 ≤ (cdB c k qs nm p).length ∧ (cdB c k qs nm p).length ≤ 27 ∧ (cdB c k qs nm p).length = 3 + (adB k qs nm p).length := by
  have := adB_length h
  simp [cdB]
  omega
theorem cd_back {c k : Int} {qs : List Int} {nm : ByteArray} {p : Int} (hc : 0 ≤ c ∧ c ≤ 255) (h : adOk k qs nm p = true) {t : List Int} (ht : ∀ x ∈ t, 0 ≤ x ∧ x ≤ 255) (hl : t.length ≤ 90) :
    cfOk (cdB c k qs nm p ++ t) = true ∧ (cdB c k qs nm p ++ t).getD 1 0 = c ∧ ((cdB c k qs nm p ++ t).drop 3).getD 0 0 = k ∧ 3 + aN ((cdB c k qs nm p ++ t).drop 3) = (cdB c k qs nm p).length ∧
      aQ ((cdB c k qs nm p ++ t).drop 3) = qs ∧ aM ((cdB c k qs nm p ++ t).drop 3) = nm ∧ aP ((cdB c k qs nm p ++ t).drop 3) = p := by
  have hlen := cdB_length (c := c) h
  have e3 : (cdB c k qs nm p ++ t).drop 3 = adB k qs nm p ++ t := by simp [cdB]
  obtain ⟨g1, g2, g3, g4, g5, g6⟩ := ad_back h t
  have hv : validL (cdB c k qs nm p ++ t) = true := by
    refine validL_of (by rw [List.length_append]; omega) fun x hx => ?_
    simp only [cdB, List.cons_append, List.mem_cons, List.mem_append] at hx
    rcases hx with rfl | rfl | rfl | hx | hx
    · omega
    · exact hc
    · omega
    · exact adB_bytes h x hx
    · exact ht x hx
  rw [cfOk, hv, e3, g1, g2, g3, g4, g5, g6]
  refine ⟨?_, by simp [cdB], rfl, by rw [hlen.2.2], rfl, rfl, rfl⟩
  have : 3 ≤ (cdB c k qs nm p ++ t).length := by rw [List.length_append]; omega
  rw [decide_eq_true this]
  simp [cdB]
theorem cfOk_parts {zs : List Int} (h : cfOk zs = true) : validL zs = true ∧ 3 ≤ zs.length ∧ zs.getD 0 0 = 5 ∧ zs.getD 2 0 = 0 ∧ afOk (zs.drop 3) = true := by
  simp only [cfOk, Bool.and_eq_true, decide_eq_true_eq] at h
  exact ⟨h.1.1.1.1, h.1.1.1.2, h.1.1.2, h.1.2, h.2⟩
theorem cd_fore {zs : List Int} (h : cfOk zs = true) : cdB (zs.getD 1 0) ((zs.drop 3).getD 0 0) (aQ (zs.drop 3)) (aM (zs.drop 3)) (aP (zs.drop 3)) = zs.take (3 + aN (zs.drop 3)) ∧ 3 + aN (zs.drop 3) ≤ zs.length := by
  obtain ⟨hv, h3, h0, h2, h4⟩ := cfOk_parts h
  have hb := bytes_of_valid hv
  have e := ad_fore (t := zs.drop 3) (fun x hx => hb x (List.mem_of_mem_drop hx)) h4
  have hl := (afOk_parts h4).1
  simp at hl
  constructor
  · rw [cdB, e, List.take_add]
    match zs, h3, h0, h2 with
    | a :: b :: c :: r, _, h0, h2 =>
      have ha : a = 5 := by simpa using h0
      have hc : c = 0 := by simpa using h2
      simp [ha, hc]
  · omega
/-- No part of such bytes begins with a code and an address. -/
theorem cd_part {c k : Int} {qs : List Int} {nm : ByteArray} {p : Int} (h : adOk k qs nm p = true) {j : Nat} (hj : j < (cdB c k qs nm p).length) : cfOk ((cdB c k qs nm p).take j) = false := by
  have hlen := cdB_length (c := c) h
  have hl : ((cdB c k qs nm p).take j).length = j := by simp; omega
  by_cases h3 : 3 ≤ j
  · have e : ((cdB c k qs nm p).take j).drop 3 = (adB k qs nm p).take (j - 3) := by
      rw [List.drop_take]
      simp [cdB]
    rw [cfOk, e, ad_part h (by omega), Bool.and_false]
  · rw [cfOk, hl, decide_eq_false h3]
    simp
end Go.Proofs.YtpcflkdeoafpeaaDoor

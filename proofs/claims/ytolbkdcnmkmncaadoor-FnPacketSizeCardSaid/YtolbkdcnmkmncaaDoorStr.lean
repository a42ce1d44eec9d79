/-
  Strings as lists of numbers: which of them are users, which two are a login; and lists that are filled place by place. Plain lists, no walk. Conditions: none.
-/
import Derived.Test.YtolbkdcnmkmncaaDoorRs
import Derived.Laws.BytesArg
namespace Go.Proofs.YtolbkdcnmkmncaaDoor
open Go.RowKit

/-- The string's bytes as numbers. -/
def numsOf (s : ByteArray) : List Int := s.data.toList.map fun c => (c.toNat : Int)
theorem numsOf_length (s : ByteArray) : (numsOf s).length = s.size := by simp [numsOf]
theorem numsOf_bytes (s : ByteArray) : ∀ x ∈ numsOf s, 0 ≤ x ∧ x ≤ 255 := by
  intro x hx
  unfold numsOf at hx
  rw [List.mem_map] at hx
  obtain ⟨c, _, rfl⟩ := hx
  have := c.toNat_lt
  omega
theorem numsOf_str {zs : List Int} (h : ∀ x ∈ zs, 0 ≤ x ∧ x ≤ 255) : numsOf (strOfNums zs) = zs := by
  unfold numsOf
  rw [strOfNums_data, List.map_map]
  conv => rhs; rw [← List.map_id zs]
  apply List.map_congr_left
  intro x hx
  have := h x hx
  simp
  omega
theorem str_numsOf (s : ByteArray) : strOfNums (numsOf s) = s := by
  apply ByteArray.ext
  apply Array.toList_inj.1
  rw [strOfNums_data]
  unfold numsOf
  rw [List.map_map]
  conv => rhs; rw [← List.map_id s.data.toList]
  apply List.map_congr_left
  intro x _
  simp
theorem numsOf_get {s : ByteArray} {j : Nat} (h : j < s.size) : (numsOf s).getD j 0 = (s[j].toNat : Int) := by
  have hl : j < s.data.toList.length := by simpa using h
  simp [numsOf, List.getD, h]
  rfl
theorem numsOf_nil {s : ByteArray} (h : s.size = 0) : numsOf s = [] := List.eq_nil_of_length_eq_zero (by rw [numsOf_length, h])
theorem numsOf_inj {s t : ByteArray} (h : numsOf s = numsOf t) : s = t := by rw [← str_numsOf s, h, str_numsOf]
theorem str_length {zs : List Int} : (strOfNums zs).size = zs.length := strOfNums_size zs

/-- A small letter or a digit, or one of further ones. -/
def wordB (f : List Int) (x : Int) : Bool := (decide (97 ≤ x) && decide (x ≤ 122)) || (decide (48 ≤ x) && decide (x ≤ 57)) || decide (x ∈ f)
def wordTo (f : List Int) (s : ByteArray) (k : Nat) : Bool := (List.range k).all fun j => wordB f ((numsOf s).getD j 0)
def wordL (f : List Int) (s : ByteArray) : Bool := wordTo f s s.size
theorem wordTo_zero (f : List Int) (s : ByteArray) : wordTo f s 0 = true := rfl
theorem wordTo_succ {f : List Int} {s : ByteArray} {k : Nat} (h : wordTo f s k = true) (h1 : wordB f ((numsOf s).getD k 0) = true) : wordTo f s (k + 1) = true := by
  unfold wordTo at *
  rw [List.range_succ, List.all_append, h]
  simp only [List.all_cons, List.all_nil, h1]
  rfl
theorem wordL_not {f : List Int} {s : ByteArray} {k : Nat} (hk : k < s.size) (h : wordB f ((numsOf s).getD k 0) = false) : wordL f s = false := by
  unfold wordL wordTo
  rw [List.all_eq_false]
  exact ⟨k, List.mem_range.2 hk, by rw [h]; simp⟩
theorem wordL_of {f : List Int} {s : ByteArray} {k : Nat} (hk : s.size ≤ k) (hk2 : k ≤ s.size) (h : wordTo f s k = true) : wordL f s = true := by
  have : k = s.size := by omega
  subst this
  exact h
theorem wordL_mem {f : List Int} {s : ByteArray} (h : wordL f s = true) : ∀ x ∈ numsOf s, wordB f x = true := by
  intro x hx
  unfold wordL wordTo at h
  rw [List.all_eq_true] at h
  obtain ⟨j, hj, rfl⟩ := List.getElem_of_mem hx
  have h1 := h j (List.mem_range.2 (by rw [numsOf_length] at hj; exact hj))
  simpa [List.getD, hj] using h1

/-- A user: small letters and digits, at most eight. -/
def userOk (s : ByteArray) : Bool := decide (s.size ≤ 8) && wordL [] s
def loginOk (u v : ByteArray) : Bool := decide (0 < u.size) && decide (0 < v.size) && userOk u && userOk v
/-- The bytes of a login. -/
def loginB (u v : ByteArray) : List Int := 1 :: (u.size : Int) :: (numsOf u ++ (v.size : Int) :: numsOf v)
def loginL (u v : ByteArray) : List Int := if loginOk u v = true then loginB u v else []
theorem loginL_ok {u v : ByteArray} (h : loginOk u v = true) : loginL u v = loginB u v := by simp [loginL, h]
theorem loginL_not {u v : ByteArray} (h : loginOk u v = false) : loginL u v = [] := by simp [loginL, h]
theorem loginB_length (u v : ByteArray) : (loginB u v).length = 3 + u.size + v.size := by
  simp [loginB, numsOf_length]
  omega
theorem loginOk_parts {u v : ByteArray} (h : loginOk u v = true) : 0 < u.size ∧ 0 < v.size ∧ u.size ≤ 8 ∧ v.size ≤ 8 := by
  simp [loginOk, userOk] at h
  omega

/-- A list whose first k places are filled. -/
def fillTo (L : List Int) (k : Nat) : List Int := L.take k ++ List.replicate (L.length - k) 0
theorem fillTo_zero (L : List Int) : fillTo L 0 = List.replicate L.length 0 := by simp [fillTo]
theorem fillTo_length {L : List Int} {k : Nat} (h : k ≤ L.length) : (fillTo L k).length = L.length := by
  simp [fillTo]
  omega
theorem fillTo_all {L : List Int} {k : Nat} (h : L.length ≤ k) : fillTo L k = L := by
  simp [fillTo, List.take_of_length_le h, Nat.sub_eq_zero_of_le h]
theorem fillTo_step {L : List Int} {j : Nat} (h : j < L.length) : (fillTo L j).set j (L.getD j 0) = fillTo L (j + 1) := by
  unfold fillTo
  have hl : (L.take j).length = j := by simp; omega
  rw [List.set_append_right j _ (by rw [hl]; exact Nat.le_refl j), hl, Nat.sub_self]
  have he : L.length - j = (L.length - (j + 1)) + 1 := by omega
  rw [he, List.replicate_succ, List.set_cons_zero, List.take_succ_eq_append_getElem h, List.append_assoc]
  simp [List.getD, h]
/-- The same from behind. -/
def fillFrom (L : List Int) (k : Nat) : List Int := List.replicate k 0 ++ L.drop k
theorem fillFrom_length {L : List Int} {k : Nat} (h : k ≤ L.length) : (fillFrom L k).length = L.length := by
  simp [fillFrom]
  omega
theorem fillFrom_zero (L : List Int) : fillFrom L 0 = L := by simp [fillFrom]
theorem fillFrom_all (L : List Int) : fillFrom L L.length = List.replicate L.length 0 := by simp [fillFrom]
theorem fillFrom_step {L : List Int} {j : Nat} (h : j < L.length) : (fillFrom L (j + 1)).set j (L.getD j 0) = fillFrom L j := by
  unfold fillFrom
  rw [List.replicate_succ', List.append_assoc, List.set_append_right j _ (by simp), List.length_replicate, Nat.sub_self]
  rw [List.singleton_append, List.set_cons_zero, List.drop_eq_getElem_cons h]
  simp [List.getD, h]
end Go.Proofs.YtolbkdcnmkmncaaDoor

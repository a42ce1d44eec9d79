/-
  What packets are joined to, as plain lists. Conditions: none.
-/
import Derived.Test.YtpcflkdeoafpeaaDoorAdT
import Derived.Test.YtpcflkdeoafpeaaDoorPkts
namespace Go.Proofs.YtpcflkdeoafpeaaDoor
open Go.RowKit

def noPk : (Int × Int × List Int × ByteArray × Int × List Int) := (0, 0, [], ⟨#[]⟩, 0, [])
def pkE (x : (Int × Int × List Int × ByteArray × Int × List Int)) : Bool := pkOk x.1 x.2.1 x.2.2.1 x.2.2.2.1 x.2.2.2.2.1 x.2.2.2.2.2
def adE (x : (Int × Int × List Int × ByteArray × Int × List Int)) : ByteArray := adT x.2.1 x.2.2.1 x.2.2.2.1 x.2.2.2.2.1
def wantE (n i : Nat) : Int := if i + 1 = n then (i : Int) + 1 + 128 else (i : Int) + 1
def fragW (n i : Nat) (f : Int) : Bool := decide (f = wantE n i) || (decide (f = 0) && decide (n = 1))
def jnAt (es : List (Int × Int × List Int × ByteArray × Int × List Int)) (i : Nat) : Bool :=
  pkE (es.getD i noPk) && decide (adE (es.getD i noPk) = adE (es.getD 0 noPk)) && fragW es.length i (es.getD i noPk).1
def jnTo (es : List (Int × Int × List Int × ByteArray × Int × List Int)) (j : Nat) : Bool := (List.range j).all fun i => jnAt es i
def jnD (es : List (Int × Int × List Int × ByteArray × Int × List Int)) (j : Nat) : List Int := (es.take j).flatMap fun x => x.2.2.2.2.2
def jnOk (es : List (Int × Int × List Int × ByteArray × Int × List Int)) : Bool := decide (es.length ≠ 0) && jnTo es es.length && decide ((jnD es es.length).length ≤ 120)
def jnL (es : List (Int × Int × List Int × ByteArray × Int × List Int)) : List Int := if jnOk es = true then jnD es es.length else []
theorem jnTo_zero (es : List (Int × Int × List Int × ByteArray × Int × List Int)) : jnTo es 0 = true := rfl
theorem jnTo_succ (es : List (Int × Int × List Int × ByteArray × Int × List Int)) (j : Nat) : jnTo es (j + 1) = (jnTo es j && jnAt es j) := by simp [jnTo, List.range_succ]
theorem jnTo_at {es : List (Int × Int × List Int × ByteArray × Int × List Int)} {j i : Nat} (h : jnTo es j = true) (hi : i < j) : jnAt es i = true := by
  unfold jnTo at h
  rw [List.all_eq_true] at h
  exact h i (List.mem_range.2 hi)
theorem jnOk_not {es : List (Int × Int × List Int × ByteArray × Int × List Int)} {j : Nat} (hj : j < es.length) (h : jnAt es j = false) : jnOk es = false := by
  have : jnTo es es.length = false := by
    cases e : jnTo es es.length
    · rfl
    · rw [jnTo_at e hj] at h
      cases h
  simp [jnOk, this]
theorem jnL_not {es : List (Int × Int × List Int × ByteArray × Int × List Int)} (h : jnOk es = false) : jnL es = [] := by simp [jnL, h]
theorem jnL_ok {es : List (Int × Int × List Int × ByteArray × Int × List Int)} (h : jnOk es = true) : jnL es = jnD es es.length := by simp [jnL, h]
theorem jnD_succ {es : List (Int × Int × List Int × ByteArray × Int × List Int)} {j : Nat} {x : (Int × Int × List Int × ByteArray × Int × List Int)} (h : es[j]? = some x) : jnD es (j + 1) = jnD es j ++ x.2.2.2.2.2 := by
  unfold jnD
  rw [List.take_add_one, h]
  simp
theorem getD_of {es : List (Int × Int × List Int × ByteArray × Int × List Int)} {j : Nat} {x : (Int × Int × List Int × ByteArray × Int × List Int)} (h : es[j]? = some x) : es.getD j noPk = x := by simp [List.getD, h]
theorem pkE_parts {x : (Int × Int × List Int × ByteArray × Int × List Int)} (h : pkE x = true) : adOk x.2.1 x.2.2.1 x.2.2.2.1 x.2.2.2.2.1 = true ∧ x.2.2.2.2.2.length ≤ 40 := by
  have h1 := pkOk_parts h
  exact ⟨h1.2.1, (dataOk_parts h1.2.2).1⟩
theorem jnD_le {es : List (Int × Int × List Int × ByteArray × Int × List Int)} : ∀ {j : Nat}, j ≤ es.length → jnTo es j = true → (jnD es j).length ≤ 40 * j
  | 0, _, _ => by simp [jnD]
  | j + 1, hj, h => by
    rw [jnTo_succ, Bool.and_eq_true] at h
    have hx : es[j]? = some (es[j]'(by omega)) := List.getElem?_eq_getElem _
    have h2 := h.2
    unfold jnAt at h2
    simp only [Bool.and_eq_true] at h2
    have h3 := (pkE_parts h2.1.1).2
    rw [getD_of hx] at h3
    rw [jnD_succ hx, List.length_append]
    have := jnD_le (j := j) (by omega) h.1
    omega
/-- The first one's address is valid as soon as one is joined, or it is the one that is looked at. -/
theorem first_ok {es : List (Int × Int × List Int × ByteArray × Int × List Int)} {j : Nat} (h : jnTo es j = true) (hp : pkE (es.getD j noPk) = true) : pkE (es.getD 0 noPk) = true := by
  rcases Nat.eq_zero_or_pos j with rfl | h0
  · exact hp
  · have := jnTo_at h h0
    unfold jnAt at this
    simp only [Bool.and_eq_true] at this
    exact this.1.1
theorem jn_last {es : List (Int × Int × List Int × ByteArray × Int × List Int)} {n : Nat} (hn : es.length = n) (h0 : n ≠ 0) (h : jnTo es n = true) : jnOk es = decide ((jnD es n).length ≤ 120) := by
  unfold jnOk
  rw [hn, h]
  simp [h0]
theorem jn_none {es : List (Int × Int × List Int × ByteArray × Int × List Int)} (hn : es.length = 0) : jnOk es = false := by simp [jnOk, hn]
end Go.Proofs.YtpcflkdeoafpeaaDoor

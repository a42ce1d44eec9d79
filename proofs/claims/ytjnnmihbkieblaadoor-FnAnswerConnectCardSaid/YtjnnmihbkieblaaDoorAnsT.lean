/-
  The answers' texts, and which of them a text begins with: plain arithmetic, no program. Conditions: none.
-/
import Derived.Test.YtjnnmihbkieblaaDoorDec
namespace Go.Proofs.YtjnnmihbkieblaaDoor
open Go.RowKit

def ansB : ByteArray := ⟨#[72, 84, 84, 80, 47, 49, 46, 49, 32]⟩
def blankB : ByteArray := ⟨#[32]⟩
def endsB : ByteArray := ⟨#[13, 10, 13, 10]⟩
def ans200 : ByteArray := ⟨#[72, 84, 84, 80, 47, 49, 46, 49, 32, 50, 48, 48, 32, 111, 107, 13, 10, 13, 10]⟩
def ans403 : ByteArray := ⟨#[72, 84, 84, 80, 47, 49, 46, 49, 32, 52, 48, 51, 32, 110, 111, 13, 10, 13, 10]⟩
def ans407 : ByteArray := ⟨#[72, 84, 84, 80, 47, 49, 46, 49, 32, 52, 48, 55, 32, 119, 104, 111, 13, 10, 13, 10]⟩
def ans502 : ByteArray := ⟨#[72, 84, 84, 80, 47, 49, 46, 49, 32, 53, 48, 50, 32, 103, 111, 110, 101, 13, 10, 13, 10]⟩
/-- The text of a code's answer, or none. -/
def ansT (c : Int) : ByteArray := if c = 200 then ans200 else if c = 403 then ans403 else if c = 407 then ans407 else if c = 502 then ans502 else .empty
theorem dec200 : decB 200 = ⟨#[50, 48, 48]⟩ := by
  rw [decB_big (by omega), decB_big (by omega), decB_small (by omega)]
  rfl
theorem dec403 : decB 403 = ⟨#[52, 48, 51]⟩ := by
  rw [decB_big (by omega), decB_big (by omega), decB_small (by omega)]
  rfl
theorem dec407 : decB 407 = ⟨#[52, 48, 55]⟩ := by
  rw [decB_big (by omega), decB_big (by omega), decB_small (by omega)]
  rfl
theorem dec502 : decB 502 = ⟨#[53, 48, 50]⟩ := by
  rw [decB_big (by omega), decB_big (by omega), decB_small (by omega)]
  rfl
theorem ansT_200 : ansT 200 = ans200 := rfl
theorem ansT_403 : ansT 403 = ans403 := rfl
theorem ansT_407 : ansT 407 = ans407 := rfl
theorem ansT_502 : ansT 502 = ans502 := rfl
/-- Whether a text begins with another one. -/
def beg (s b : ByteArray) : Bool := Lib.hasPrefix s.data.toList b.data.toList
/-- The code that a text begins with the answer of. -/
def ansC (s : ByteArray) : Int := if beg s ans200 then 200 else if beg s ans403 then 403 else if beg s ans407 then 407 else if beg s ans502 then 502 else 0
def ansU (s : ByteArray) : Int := if beg s ans200 then 19 else if beg s ans403 then 19 else if beg s ans407 then 20 else if beg s ans502 then 21 else 0
def ansO (s : ByteArray) : Bool := beg s ans200 || beg s ans403 || beg s ans407 || beg s ans502
/-- A code is one of four, or none has an answer. -/
theorem ans_cases (c : Int) : c = 200 ∨ c = 403 ∨ c = 407 ∨ c = 502 ∨ (c ≠ 200 ∧ c ≠ 403 ∧ c ≠ 407 ∧ c ≠ 502) := by omega
theorem ansT_none {c : Int} (h : c ≠ 200 ∧ c ≠ 403 ∧ c ≠ 407 ∧ c ≠ 502) : ansT c = .empty := by
  obtain ⟨h1, h2, h3, h4⟩ := h
  simp [ansT, h1, h2, h3, h4]
/-- Which answer a text begins with: one of four, or none. -/
theorem ans_begins (s : ByteArray) :
    (beg s ans200 = true ∧ ansC s = 200 ∧ ansU s = 19 ∧ ansO s = true) ∨
    (beg s ans200 = false ∧ beg s ans403 = true ∧ ansC s = 403 ∧ ansU s = 19 ∧ ansO s = true) ∨
    (beg s ans200 = false ∧ beg s ans403 = false ∧ beg s ans407 = true ∧ ansC s = 407 ∧ ansU s = 20 ∧ ansO s = true) ∨
    (beg s ans200 = false ∧ beg s ans403 = false ∧ beg s ans407 = false ∧ beg s ans502 = true ∧ ansC s = 502 ∧ ansU s = 21 ∧ ansO s = true) ∨
    (beg s ans200 = false ∧ beg s ans403 = false ∧ beg s ans407 = false ∧ beg s ans502 = false ∧ ansC s = 0 ∧ ansU s = 0 ∧ ansO s = false) := by
  unfold ansC ansU ansO
  cases beg s ans200 <;> cases beg s ans403 <;> cases beg s ans407 <;> cases beg s ans502 <;> simp
theorem beg_raw (s b : ByteArray) : (decide (b.size ≤ s.size) && ((s.extract 0 b.size).toList == b.toList)) = beg s b := Lib.hasPrefix_raw s b
theorem beg_iff {s b : ByteArray} : beg s b = true ↔ b.data.toList <+: s.data.toList := by
  unfold beg Lib.hasPrefix
  exact List.isPrefixOf_iff_prefix
theorem beg_self_append (b t : ByteArray) : beg (b ++ t) b = true := by
  rw [beg_iff]
  simp [ByteArray.data_append]
theorem beg_split {s b : ByteArray} (h : beg s b = true) : ∃ t : ByteArray, s = b ++ t := by
  rw [beg_iff] at h
  obtain ⟨t, ht⟩ := h
  refine ⟨⟨t.toArray⟩, ?_⟩
  apply ByteArray.ext
  apply Array.ext'
  rw [← ht]
  simp [ByteArray.data_append]
theorem beg_take {s b : ByteArray} (h : beg s b = true) : s.extract 0 b.size = b := by
  obtain ⟨t, rfl⟩ := beg_split h
  exact ByteArray.extract_append_eq_left rfl
/-- A text with letters is not "". -/
theorem not_none {u : ByteArray} (h : 0 < u.size) : u.toList.isEmpty = false := by
  have h1 : u.toList.length = u.size := by
    rw [ByteArray.toList_eq]
    rfl
  cases e : u.toList with
  | nil =>
    rw [e] at h1
    simp at h1
    omega
  | cons _ _ => rfl
theorem none_empty : ByteArray.empty.toList.isEmpty = true := by
  rw [ByteArray.toList_eq]
  rfl
/-- A part of an answer begins with no answer. -/
theorem beg_short {s b : ByteArray} (h : s.size < b.size) : beg s b = false := by
  cases e : beg s b
  · rfl
  · rw [beg_iff] at e
    have := e.length_le
    simp at this
    omega
end Go.Proofs.YtjnnmihbkieblaaDoor
namespace Go.Proofs.YtjnnmihbkieblaaDoor
open Go.RowKit

/-- The table: the codes and their words. -/
def ansL : List (Int × ByteArray) := [(200, ⟨#[111, 107]⟩), (403, ⟨#[110, 111]⟩), (407, ⟨#[119, 104, 111]⟩), (502, ⟨#[103, 111, 110, 101]⟩)]
def ansN (j : Nat) : Int := (ansL.getD j (0, .empty)).1
theorem ans_at : ∀ k, k < 4 → ∃ (n : Nat) (wd : ByteArray), ansL[k]? = some ((n : Int), wd) ∧ ansN k = (n : Int) ∧ n ≤ 999 ∧ wd.size ≤ 4 ∧ wd.toList.isEmpty = false ∧ ansT (n : Int) = ansB ++ decB n ++ blankB ++ wd ++ endsB
  | 0, _ => ⟨200, _, rfl, rfl, by omega, by decide, not_none (by decide), by rw [dec200]; rfl⟩
  | 1, _ => ⟨403, _, rfl, rfl, by omega, by decide, not_none (by decide), by rw [dec403]; rfl⟩
  | 2, _ => ⟨407, _, rfl, rfl, by omega, by decide, not_none (by decide), by rw [dec407]; rfl⟩
  | 3, _ => ⟨502, _, rfl, rfl, by omega, by decide, not_none (by decide), by rw [dec502]; rfl⟩
  | k + 4, h => by omega
/-- The place of the answer that a text begins with, or -1. -/
def ansI (s : ByteArray) : Int := if beg s ans200 then 0 else if beg s ans403 then 1 else if beg s ans407 then 2 else if beg s ans502 then 3 else -1
theorem ans_hit {s : ByteArray} {k : Nat} (hk : k < 4) (h0 : ∀ j, j < k → beg s (ansT (ansN j)) = false) (h1 : beg s (ansT (ansN k)) = true) :
    ansI s = k ∧ ansC s = ansN k ∧ ansU s = ((ansT (ansN k)).size : Nat) ∧ ansO s = true := by
  match k, hk with
  | 0, _ => have h : beg s ans200 = true := h1
            refine ⟨?_, ?_, ?_, ?_⟩ <;> simp [ansI, ansC, ansU, ansO, h] <;> rfl
  | 1, _ => have a0 : beg s ans200 = false := h0 0 (by omega)
            have h : beg s ans403 = true := h1
            refine ⟨?_, ?_, ?_, ?_⟩ <;> simp [ansI, ansC, ansU, ansO, h, a0] <;> rfl
  | 2, _ => have a0 : beg s ans200 = false := h0 0 (by omega)
            have a1 : beg s ans403 = false := h0 1 (by omega)
            have h : beg s ans407 = true := h1
            refine ⟨?_, ?_, ?_, ?_⟩ <;> simp [ansI, ansC, ansU, ansO, h, a0, a1] <;> rfl
  | 3, _ => have a0 : beg s ans200 = false := h0 0 (by omega)
            have a1 : beg s ans403 = false := h0 1 (by omega)
            have a2 : beg s ans407 = false := h0 2 (by omega)
            have h : beg s ans502 = true := h1
            refine ⟨?_, ?_, ?_, ?_⟩ <;> simp [ansI, ansC, ansU, ansO, h, a0, a1, a2] <;> rfl
theorem ans_miss {s : ByteArray} (h0 : ∀ j, j < 4 → beg s (ansT (ansN j)) = false) : ansI s = -1 ∧ ansC s = 0 ∧ ansU s = 0 ∧ ansO s = false := by
  have a0 : beg s ans200 = false := h0 0 (by omega)
  have a1 : beg s ans403 = false := h0 1 (by omega)
  have a2 : beg s ans407 = false := h0 2 (by omega)
  have a3 : beg s ans502 = false := h0 3 (by omega)
  refine ⟨?_, ?_, ?_, ?_⟩ <;> simp [ansI, ansC, ansU, ansO, a0, a1, a2, a3]
/-- A text begins with an answer (its place k), or with none. -/
theorem ans_either (s : ByteArray) : (∃ k : Nat, k < 4 ∧ ansI s = k ∧ ansC s = ansN k ∧ ansU s = ((ansT (ansN k)).size : Nat) ∧ ansO s = true ∧ beg s (ansT (ansN k)) = true) ∨ (ansI s = -1 ∧ ansC s = 0 ∧ ansU s = 0 ∧ ansO s = false) := by
  by_cases h : ∃ k, k < 4 ∧ beg s (ansT (ansN k)) = true
  · have hx : ∃ k, k < 4 ∧ beg s (ansT (ansN k)) = true ∧ ∀ j, j < k → beg s (ansT (ansN j)) = false := by
      obtain ⟨k, hk, h1⟩ := h
      induction k using Nat.strongRecOn with
      | ind k ih =>
        by_cases hj : ∃ j, j < k ∧ beg s (ansT (ansN j)) = true
        · obtain ⟨j, hj1, hj2⟩ := hj
          exact ih j hj1 (by omega) hj2
        · exact ⟨k, hk, h1, fun j hj1 => by cases e : beg s (ansT (ansN j)) <;> first | rfl | exact absurd ⟨j, hj1, e⟩ hj⟩
    obtain ⟨k, hk, h1, h0⟩ := hx
    obtain ⟨x1, x2, x3, x4⟩ := ans_hit hk h0 h1
    exact .inl ⟨k, hk, x1, x2, x3, x4, h1⟩
  · exact .inr (ans_miss fun j hj => by cases e : beg s (ansT (ansN j)) <;> first | rfl | exact absurd ⟨j, hj, e⟩ h)
theorem ansN_none {c : Int} (h : ∀ j, j < 4 → ansN j ≠ c) : ansT c = .empty := by
  have h0 : c ≠ 200 := fun e => h 0 (by omega) e.symm
  have h1 : c ≠ 403 := fun e => h 1 (by omega) e.symm
  have h2 : c ≠ 407 := fun e => h 2 (by omega) e.symm
  have h3 : c ≠ 502 := fun e => h 3 (by omega) e.symm
  exact ansT_none ⟨h0, h1, h2, h3⟩
end Go.Proofs.YtjnnmihbkieblaaDoor

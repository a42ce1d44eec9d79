/-
  The exact laws' own helpers that write marks into a slice of integers and look for them again (markIntS, heldIntS), and the copy of an argument (toIntS). Conditions: lengths and marks below 2^40.
-/
import Derived.Test.YtjnnmihbkieblaaDoorAppend
import Derived.Laws.MakeOwn
namespace Go.Proofs.YtjnnmihbkieblaaDoor
open Go.RowKit

theorem Seg.set_ {w : World} {e : TypeId} {b o j : Nat} {xs : List Value} (h : Seg w e b o xs) (hj : j < xs.length) (u : Value) : Seg (w.setCell ⟨b, o + j, none⟩ u) e b o (xs.set j u) := by
  obtain ⟨cur, hc, hx⟩ := h
  refine ⟨cur.setIfInBounds (o + j) u, heap_setCell_same w b (o + j) cur e u hc, fun i y hy => ?_⟩
  have hlt : o + j < cur.size := by
    have := hx j xs[j] (List.getElem?_eq_getElem hj)
    exact (Array.getElem?_eq_some_iff.1 this).1
  rw [List.getElem?_set] at hy
  rw [Array.getElem?_setIfInBounds]
  by_cases hij : j = i
  · subst hij
    rw [if_pos rfl, if_pos hj] at hy
    rw [if_pos rfl, if_pos hlt]
    exact hy
  · rw [if_neg hij] at hy
    rw [if_neg (by omega)]
    exact hx i y hy

/-- k, k + 1, .. -/
def marks (k : Int) (n : Nat) : List Int := (List.range n).map fun (i : Nat) => k + (i : Int)
theorem marks_length (k : Int) (n : Nat) : (marks k n).length = n := by simp [marks]
theorem marks_get {k : Int} {n j : Nat} (h : j < n) : (marks k n).getD j 0 = k + j := by simp [marks, List.getD, h]
theorem marks_succ (k : Int) (n : Nat) : marks k (n + 1) = marks k n ++ [k + n] := by simp [marks, List.range_succ]
theorem marks_step {k : Int} {j : Nat} {zs : List Int} (h : j < zs.length) : (marks k j ++ zs.drop j).set j (k + j) = marks k (j + 1) ++ zs.drop (j + 1) := by
  rw [List.set_append_right j _ (by rw [marks_length]; omega), marks_length, Nat.sub_self, List.drop_eq_getElem_cons h, marks_succ, List.set_cons_zero, List.append_assoc]
  rfl

end Go.Proofs.YtjnnmihbkieblaaDoor

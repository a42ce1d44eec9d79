/-
  What is cut is joined to the same data: the plain law. Conditions: the data has at most 120 bytes.
-/
import Derived.Test.YtdmkacbjdojkpaaDoorJoinL
import Derived.Test.YtdmkacbjdojkpaaDoorCutLaw
namespace Go.Proofs.YtdmkacbjdojkpaaDoor
open Go.RowKit

theorem chunks_all (s : Nat) (ds : List Int) : ∀ n, (List.range n).flatMap (chunk s ds) = ds.take (n * s)
  | 0 => by simp
  | n + 1 => by
    rw [List.range_succ, List.flatMap_append, chunks_all s ds n, Nat.add_mul, Nat.one_mul, List.take_add]
    simp [chunk]
theorem cutL_at {k : Int} {qs : List Int} {nm : ByteArray} {p : Int} {ds : List Int} {n i : Nat} (hi : i < cutM n ds.length) : (cutL k qs nm p ds n)[i]? = some (cutF n ds.length i, k, qs, nm, p, chunk n ds i) := by
  rw [cutL_all, List.getElem?_map, List.getElem?_range hi]
  rfl
theorem cutL_count (k : Int) (qs : List Int) (nm : ByteArray) (p : Int) (ds : List Int) (n : Nat) : (cutL k qs nm p ds n).length = cutM n ds.length := by
  rw [cutL_all]
  simp
theorem frag_ok {n L i : Nat} (hn : 1 ≤ n) (_hi : i < cutM n L) : fragW (cutM n L) i (cutF n L i) = true := by
  unfold fragW
  by_cases h : L ≤ n
  · rw [cutF_one h, (cutM_one hn).2 h]
    simp
  · have h1 : cutM n L ≠ 1 := fun e => h ((cutM_one hn).1 e)
    rw [cutF_more hn rfl h1]
    simp [wantE]
theorem cut_at_ok {k : Int} {qs : List Int} {nm : ByteArray} {p : Int} {ds : List Int} {n i : Nat} (h : cutOk k qs nm p ds (n : Int) = true) (hn : 1 ≤ n) (hi : i < cutM n ds.length) : jnAt (cutL k qs nm p ds n) i = true := by
  unfold jnAt
  rw [getD_of (cutL_at hi), getD_of (cutL_at (show 0 < cutM n ds.length by omega)), cutL_count, frag_ok hn hi]
  have := cut_pk h hi
  simp [pkE, adE, this]
theorem cut_to_ok {k : Int} {qs : List Int} {nm : ByteArray} {p : Int} {ds : List Int} {n : Nat} (h : cutOk k qs nm p ds (n : Int) = true) (hn : 1 ≤ n) : jnTo (cutL k qs nm p ds n) (cutM n ds.length) = true := by
  unfold jnTo
  rw [List.all_eq_true]
  intro i hi
  exact cut_at_ok h hn (List.mem_range.1 hi)
theorem cut_data (k : Int) (qs : List Int) (nm : ByteArray) (p : Int) (ds : List Int) {n : Nat} (hn : 1 ≤ n) : jnD (cutL k qs nm p ds n) (cutM n ds.length) = ds := by
  unfold jnD
  rw [List.take_of_length_le (by rw [cutL_count]; exact Nat.le_refl _), cutL_all, List.flatMap_map]
  have := chunks_all n ds (cutM n ds.length)
  rw [List.take_of_length_le (cutM_end hn)] at this
  exact this
theorem cut_joined {k : Int} {qs : List Int} {nm : ByteArray} {p : Int} {ds : List Int} {n : Nat} (h : cutOk k qs nm p ds (n : Int) = true) (hn : 1 ≤ n) (hl : ds.length ≤ 120) : jnOk (cutL k qs nm p ds n) = true ∧ jnL (cutL k qs nm p ds n) = ds := by
  have hc := cutL_count k qs nm p ds n
  have hp := cutM_pos (L := ds.length) hn
  have h1 : jnOk (cutL k qs nm p ds n) = true := by
    rw [jn_last hc (by omega) (cut_to_ok h hn), cut_data k qs nm p ds hn]
    simpa using hl
  refine ⟨h1, ?_⟩
  rw [jnL_ok h1, hc, cut_data k qs nm p ds hn]
end Go.Proofs.YtdmkacbjdojkpaaDoor

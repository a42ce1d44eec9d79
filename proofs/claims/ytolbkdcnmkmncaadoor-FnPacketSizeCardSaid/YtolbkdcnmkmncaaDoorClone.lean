/-
  The library's slices.Clone at integers returns the same list in memory of the call's own. Conditions: the slice reads as a list of integers of at most 2^20 elements.
-/
import Derived.Test.YtolbkdcnmkmncaaDoorAppend
import Derived.WalkSpells
namespace Go.Proofs.YtolbkdcnmkmncaaDoor
open Go.RowKit

theorem Clone_any (v : Value) (zs : List Int) (w : World) (hv : Ints w 0 v zs) (hl : zs.length ≤ 1048576) :
    Calls Tryd.prog 86 #[v] w fun e w' => ∃ u, e = .returned u ∧ Own w' w.heap.size u zs ∧ Below w.heap.size w w' := by
  have HV := Lib.hid hv
  obtain ⟨A, c, rfl, hc, hm, hA⟩ := hv.open_
  clear hv
  rcases A with _ | ad
  · have hz : zs = [] := by
      rcases hA with h | ⟨b, o, h, _⟩
      · exact h
      · cases h
    subst hz
    clear hA
    have hq := fun W => Lib.run_eql_slice_nil (P := Tryd.prog) W 23 3 none 0 c 0 0 Tryd.underlying23
    go_enter Tryd.func86, Tryd.ntmps86
    go_wp2
    go_ret
    exact ⟨_, rfl, Own.nil_ _ _, Below.refl _ _⟩
  · clear hA
    have hq := fun W => Lib.run_eql_slice_nil (P := Tryd.prog) W 23 3 (some ad) zs.length c 0 0 Tryd.underlying23
    go_enter Tryd.func86, Tryd.ntmps86
    go_wp2_with (at_builtin; refine wp_ints rfl (.tmp 5) (.tmp 6) rfl rfl rfl (Own.lit w [] w.heap.size (Nat.le_refl _) (by simp)) (HV.out.alloc _) (by simp; omega) (by simp) ?_; intro v2 w2 o2 b2 g2 k2)
    go_ret
    exact ⟨_, rfl, o2, ((Below.refl _ _).alloc (Nat.le_refl _) _).trans b2⟩
end Go.Proofs.YtolbkdcnmkmncaaDoor

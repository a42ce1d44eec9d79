/-
  The two LoginReply functions return 1 and 0, or 1 and 1, in memory of their own. Conditions: none.
-/
import Derived.Test.YticlgmdmkomdbaaAppend
namespace Go.Proofs.Yticlgmdmkomdbaa
open Go.RowKit
def replyL (f : Bool) : List Int := if f then [1, 0] else [1, 1]

theorem impl_LoginReply_any (f : Bool) (w : World) : Calls Try.prog 25 #[.bool f] w fun e w' => ∃ v, e = .returned v ∧ Own w' w.heap.size v (replyL f) ∧ Below w.heap.size w w' := by
  cases f
  · go_enter Try.func25, Try.ntmps25
    go_wp2
    go_ret
    exact ⟨_, rfl, Own.lit w [1, 1] _ (Nat.le_refl _) (by simp), (Below.refl _ _).alloc (Nat.le_refl _) _⟩
  · go_enter Try.func25, Try.ntmps25
    go_wp2
    go_ret
    exact ⟨_, rfl, Own.lit w [1, 0] _ (Nat.le_refl _) (by simp), (Below.refl _ _).alloc (Nat.le_refl _) _⟩

theorem spec_LoginReply_any (f : Bool) (w : World) : Calls Try.prog 24 #[.bool f] w fun e w' => ∃ v, e = .returned v ∧ Own w' w.heap.size v (replyL f) ∧ Below w.heap.size w w' := by
  cases f
  · go_enter Try.func24, Try.ntmps24
    go_wp2
    go_ret
    exact ⟨_, rfl, Own.lit w [1, 1] _ (Nat.le_refl _) (by simp), (Below.refl _ _).alloc (Nat.le_refl _) _⟩
  · go_enter Try.func24, Try.ntmps24
    go_wp2
    go_ret
    exact ⟨_, rfl, Own.lit w [1, 0] _ (Nat.le_refl _) (by simp), (Below.refl _ _).alloc (Nat.le_refl _) _⟩
end Go.Proofs.Yticlgmdmkomdbaa

/-
  The drawn input of the LoginReply law is a bool. Conditions: the code is a slice that came in.
-/
import Derived.Test.YticlgmdmkomdbaaPick
namespace Go.Proofs.Yticlgmdmkomdbaa
open Go.RowKit

def SomeBool (w : World) (e : Ending) (w' : World) : Prop := ∃ f : Bool, e = .returned (.bool f) ∧ Below w.heap.size w w'

theorem DrawLoginReply_any (v : Value) (bs : List Int) (w : World) (hv : Came .u8 w w.heap.size v bs) :
    Calls Try.prog 29 #[v] w fun e w' => SomeBool w e w' := by
  go_enter Try.func29, Try.ntmps29
  go_wp2_with fail
  refine (l6Open_any _ bs w.heap.size _ hv (Nat.le_refl _)).mono ?_
  rintro e w1 ⟨rfl, hr, hb⟩
  go_wp2_with fail
  refine (pick_any w.heap.size w.heap.size 0 2 _ hr (by omega) (by omega)).mono ?_
  rintro e w2 ⟨x, rfl, _, _, hg⟩
  have hb2 := Lib.hid (below_only hb hg hb.size (Nat.le_refl _))
  go_wp2_with fail
  go_ret
  exact ⟨_, rfl, hb2.out⟩
end Go.Proofs.Yticlgmdmkomdbaa

/-
  The drawn codes and texts of the laws of answers. Conditions: the code is a slice that came in.
-/
import Derived.Test.YtjnnmihbkieblaaDoorAns
import Derived.Test.YtjnnmihbkieblaaDoorText92
namespace Go.Proofs.YtjnnmihbkieblaaDoor
open Go.RowKit

def SomeInt (w : World) (e : Ending) (w' : World) : Prop := ∃ x : Int, e = .returned (.int .i64 x) ∧ Below w.heap.size w w'
set_option maxRecDepth 100000 in
theorem DrawAnswerText_any (v : Value) (bs : List Int) (w : World) (hv : Came .u8 w w.heap.size v bs) :
    Calls Tryd.prog 4 #[v] w fun e w' => SomeInt w e w' := by
  have O0 := Lib.hid (Own.lit w [200, 403, 407, 502, 404, 0] 0 (Nat.zero_le _) (by simp))
  go_enter Tryd.func4, Tryd.ntmps4
  go_wp2_with fail
  refine (l6Open_any _ bs w.heap.size _ (hv.keep fun b hb => Below.heap_alloc w _ b hb) (by simp)).mono ?_
  rintro e w1 ⟨rfl, r1, b1⟩
  have O1 := Lib.hid (O0.out.below b1)
  simp only [World.size_alloc] at r1 b1 ⊢
  have R1 := Lib.hid r1
  have B1 : Hid (Below w.heap.size w w1) := Lib.hid (((Below.refl _ _).alloc (Nat.le_refl _) _).trans (b1.mono (Nat.le_succ _)))
  clear r1 b1
  go_wp2_with fail
  refine (pick_any w.heap.size (w.heap.size + 1) 0 6 _ R1.out (by omega) (by omega)).mono ?_
  rintro e w2 ⟨x, rfl, hx, r2, g2⟩
  obtain ⟨j, rfl, hj⟩ := pick_lit 6 rfl (by omega) hx
  have cj := (R1.out.own O1.out g2).cell (j := j) (by simpa using hj)
  obtain ⟨y, hy⟩ : ∃ y, ([200, 403, 407, 502, 404, 0] : List Int).getD j 0 = y := ⟨_, rfl⟩
  rw [hy] at cj
  have hji : (j : Int) < 6 := by omega
  have B2 := Lib.hid (below_only B1.out g2 B1.out.size (Nat.le_succ _))
  clear r2 g2 hx hy
  go_wp2_with fail
  go_ret
  exact ⟨y, rfl, B2.out⟩

def SomeText (w : World) (e : Ending) (w' : World) : Prop := ∃ t : ByteArray, e = .returned (.string t) ∧ t.size ≤ 1010 ∧ Below w.heap.size w w'
theorem ansT_size (c : Int) : (ansT c).size ≤ 21 := by
  unfold ansT
  split
  · decide
  split
  · decide
  split
  · decide
  split <;> decide
end Go.Proofs.YtjnnmihbkieblaaDoor

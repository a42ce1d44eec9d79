/-
  The drawn change of a text (l92Text): some short text; the reader has gone on. Conditions: the text is short, the reader's counter is small.
-/
import Derived.Test.YtjnnmihbkieblaaDoorDrawAd
import Derived.Test.YtjnnmihbkieblaaDoorAnsT
import Derived.Deep.RegionHeld3
import Derived.BigQuiet
namespace Go.Proofs.YtjnnmihbkieblaaDoor
open Go.RowKit

/-- Behind a drawn change of a text. -/
def Drew92 (w : World) (hi g p m : Nat) (e : Ending) (w' : World) : Prop := ∃ t p', e = .returned (.string t) ∧ t.size ≤ m ∧ p' ≤ p + 3 ∧ Rd6 w' hi g p' ∧ w.grownBy w' (some g)
def chg : List ByteArray := [⟨#[120]⟩, ⟨#[32]⟩, ⟨#[48]⟩]
theorem cut92 {z : Nat} {x : Int} (hx : PickOk (z : Int) x) (hz : 0 < z) : ∃ j : Nat, x = j ∧ j < z := ⟨x.toNat, by have := hx.1; have := hx.2; omega, by have := hx.1; have := hx.2; omega⟩

end Go.Proofs.YtjnnmihbkieblaaDoor

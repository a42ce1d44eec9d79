/-
  The drawn quad, port, name and address: an address in memory of the call's own; the reader has gone on. Conditions: the reader's counter is small.
-/
import Derived.Test.YtjnnmihbkieblaaDoorPick
import Derived.Test.YtjnnmihbkieblaaDoorBlk
import Derived.Test.YtjnnmihbkieblaaDoorLits
namespace Go.Proofs.YtjnnmihbkieblaaDoor
open Go.RowKit

/-- Behind a draw of a port. -/
def DrewPort (w : World) (hi g p : Nat) (e : Ending) (w' : World) : Prop := ∃ x p', e = .returned (.int .i64 x) ∧ p' ≤ p + 3 ∧ Rd6 w' hi g p' ∧ w.grownBy w' (some g)

def badNames : List ByteArray := [⟨#[]⟩, ⟨#[97, 46, 46, 98]⟩, ⟨#[46, 97]⟩, ⟨#[97, 46]⟩, ⟨#[65]⟩, ⟨#[97, 95, 98]⟩, ⟨#[97, 98, 99, 100, 101, 102, 103, 104, 105, 106, 107, 108, 109, 110, 111, 112, 113, 114, 115, 116]⟩, ⟨#[97, 98, 99, 100, 101, 102, 103, 104, 105, 106, 107, 108, 109, 110, 111, 112, 113, 114, 115, 116, 117]⟩, ⟨#[97, 46, 57]⟩]
def goodNames : List ByteArray := [⟨#[120, 46, 111, 114, 103]⟩, ⟨#[119, 119, 119, 46, 120, 46, 111, 114, 103]⟩, ⟨#[97]⟩, ⟨#[98, 45, 99, 46, 110, 101, 116]⟩, ⟨#[57, 97, 46, 98]⟩, ⟨#[121]⟩]
end Go.Proofs.YtjnnmihbkieblaaDoor

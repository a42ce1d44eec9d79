/-
  The laws' own helpers at addresses: szIntS, szAddress, toAddress, eqAddress, markAddress, heldAddress, sameAddress. Conditions: the quads read as lists of integers.
-/
import Derived.Test.YtjnnmihbkieblaaDoorAdArg
import Derived.Test.YtjnnmihbkieblaaDoorTexts
import Derived.Test.YtjnnmihbkieblaaDoorMarks
import Derived.Test.YtjnnmihbkieblaaDoorRs
namespace Go.Proofs.YtjnnmihbkieblaaDoor
open Go.RowKit

theorem Blk.new_ {W : World} {t : TypeId} {cs : Array Value} {g : Nat} (hg : g = W.heap.size) : Blk (W.alloc (.cells cs t)) g t cs := by
  subst hg
  exact Blk.new W t cs
/-- An address in memory of the call's own. -/
def MadeAd (w : World) (k : Int) (qs : List Int) (nm : ByteArray) (p : Int) (e : Ending) (w' : World) : Prop :=
  ∃ q, e = .returned (.agg #[.int .i64 k, q, .string nm, .int .i64 p]) ∧ Own w' w.heap.size q qs ∧ Below w.heap.size w w'

/-- An own row's block is none below its base, and none that the row's world lacks. -/
theorem Own.newer {w : World} {base g : Nat} {v : Value} {zs : List Int} (h : Own w base v zs) (hg : g < base) : v.ownBlock ≠ some g := by
  intro he
  have h1 := (World.ownsRow.lt h g he).1
  omega
theorem Own.oldBlk {w : World} {base g : Nat} {v : Value} {zs : List Int} (h : Own w base v zs) (hg : w.heap.size ≤ g) : v.ownBlock ≠ some g := by
  rcases h.2 with ⟨h0, _⟩ | ⟨b, cap, cur, he, _, hh, _⟩
  · subst h0
    simp [Value.ownBlock]
  · subst he
    have := (Array.getElem?_eq_some_iff.1 hh).1
    simp [Value.ownBlock]
    omega
theorem Blk.apart {w w' : World} {g n : Nat} {t : TypeId} {cs : Array Value} {v : Value} (h : Blk w g t cs) (hg : (w.drewN n).grownBy w' v.ownBlock) (hne : v.ownBlock ≠ some g) : Blk w' g t cs := (h.drewN n).grown hg (Ne.symm hne)
end Go.Proofs.YtjnnmihbkieblaaDoor

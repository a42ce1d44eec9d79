/-
  The laws' own helpers at addresses: szIntS, szAddress, toAddress, eqAddress, markAddress, heldAddress, sameAddress. Conditions: the quads read as lists of integers.
-/
import Derived.Test.YtjnnmihbkieblaaGreatDoorAdArg
import Derived.Test.YtjnnmihbkieblaaGreatDoorTexts
import Derived.Test.YtjnnmihbkieblaaGreatDoorMarks
import Derived.Test.YtjnnmihbkieblaaGreatDoorRs
namespace Go.Proofs.YtjnnmihbkieblaaGreatDoor
open Go.RowKit

theorem Blk.new_ {W : World} {t : TypeId} {cs : Array Value} {g : Nat} (hg : g = W.heap.size) : Blk (W.alloc (.cells cs t)) g t cs := by
  subst hg
  exact Blk.new W t cs
/-- An address in memory of the call's own. -/
def MadeAd (w : World) (k : Int) (qs : List Int) (nm : ByteArray) (p : Int) (e : Ending) (w' : World) : Prop :=
  ∃ q, e = .returned (.agg #[.int .i64 k, q, .string nm, .int .i64 p]) ∧ Own w' w.heap.size q qs ∧ Below w.heap.size w w'

set_option maxRecDepth 100000 in
set_option maxHeartbeats 2000000 in
theorem eqAddress_same (k : Int) (q q2 : Value) (nm : ByteArray) (p : Int) (qs : List Int) (w : World) (h1 : Ints w 0 q qs) (h2 : Ints w 0 q2 qs) :
    Calls Tryz.prog 13 #[.agg #[.int .i64 k, q, .string nm, .int .i64 p], .agg #[.int .i64 k, q2, .string nm, .int .i64 p]] w fun e w' => e = .returned (.bool true) ∧ Below w.heap.size w w' := by
  have H1 := Lib.hid h1
  have H2 := Lib.hid h2
  obtain ⟨A, c, rfl, hc, hm, _⟩ := h1.open_
  obtain ⟨A2, c2, rfl, hc2, hm2, _⟩ := h2.open_
  clear h1 h2
  go_enter Tryz.func13, Tryz.ntmps13
  go_wp2_with fail
  refine (eqIntS_any _ _ qs qs _ ((H1.out.alloc _).alloc _) ((H2.out.alloc _).alloc _)).mono ?_
  rintro e w1 ⟨rfl, n1, rfl⟩
  rw [decide_eq_true rfl]
  go_wp2_with fail
  go_ret
  exact ⟨rfl, below_drewN (((Below.refl _ _).alloc (Nat.le_refl _) _).alloc (by simp) _) n1⟩



/-- An own row's block is none below its base, and none that the row's world lacks. -/
theorem Own.newer {w : World} {base g : Nat} {v : Value} {zs : List Int} (h : Own w base v zs) (hg : g < base) : v.ownBlock ≠ some g := by
  intro he
  have h1 := (World.ownsRow.lt h g he).1
  omega
theorem Own.oldBlk {w : World} {base g : Nat} {v : Value} {zs : List Int} (h : Own w base v zs) (hg : w.heap.size ≤ g) : v.ownBlock ≠ some g := by
  rcases h.2 with ⟨h0, _⟩ | ⟨b, cap, cur, he, _, hh, _⟩
  · subst h0
    simp [Value.ownBlock]
  · subst he
    have := (Array.getElem?_eq_some_iff.1 hh).1
    simp [Value.ownBlock]
    omega
theorem Blk.apart {w w' : World} {g n : Nat} {t : TypeId} {cs : Array Value} {v : Value} (h : Blk w g t cs) (hg : (w.drewN n).grownBy w' v.ownBlock) (hne : v.ownBlock ≠ some g) : Blk w' g t cs := (h.drewN n).grown hg (Ne.symm hne)
end Go.Proofs.YtjnnmihbkieblaaGreatDoor

/-
  A region that draws its order, whose operations but the last ones only read: the draw taken first, the world under one name. Conditions: the region's order is forced behind its reads.
-/
import Derived.Test.YtolbkdcnmkmncaaDoorAppend
import Derived.StillTailTactics
namespace Go.Proofs.YtolbkdcnmkmncaaDoor
open Go.RowKit

theorem region_tail {P : Program} {id : Nat} {Q : Exit → Act → World → Prop} {a : Act} {w : World} {l : List Oper} (n : Nat) (hm : P.follows .mixedOrders = true) (hB : Region.lexTailB .any l.toArray n = true)
    (h : wpStill P l.toArray w.drew (fun a' => wpList P l.toArray Q (l.drop n) a' w.drew) (l.take n) a) : (Code.region id l.toArray true).wp P Q a w := wp_region_still_tail n hm hB h

/-- 's[p:p+n]' of a slice of integers, by the two values that the model gives: where p is the capacity, and elsewhere. -/
theorem Ints.cutEnd {w : World} {p n : Nat} {A : Option Addr} (zs : List Int) (hn : n = 0) : Ints w 0 (.slice A n 0) ((zs.drop p).take n) := by
  subst hn
  rw [List.take_zero]
  exact Ints.none_ w 0 A 0 (by omega)
theorem Ints.cutMap {w : World} {lo p n c : Nat} {A : Option Addr} {zs : List Int} (h : Ints w lo (.slice A zs.length c) zs) (hn : p + n ≤ zs.length) :
    Ints w 0 (.slice (Option.map (fun x => x.add p) A) n (c - p)) ((zs.drop p).take n) := by
  obtain ⟨A', c', he, hc, hm, hA⟩ := h.open_
  injection he with e1 e2 e3
  subst e1 e3
  rcases hA with h0 | ⟨b, o, rfl, _, _, hs⟩
  · have hn0 : n = 0 := by rw [h0] at hn; simp at hn; omega
    subst hn0
    rw [List.take_zero]
    exact Ints.none_ w 0 _ _ (by omega)
  · simp only [Option.map_some, addr_add]
    exact Ints.part hs hn (by omega) (by omega)
end Go.Proofs.YtolbkdcnmkmncaaDoor

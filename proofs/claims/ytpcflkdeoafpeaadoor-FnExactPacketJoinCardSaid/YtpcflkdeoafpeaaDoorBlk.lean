/-
  A block that is known whole, and what keeps it; the reader of a code beside stores into other blocks; a list of texts to draw from. Conditions: none.
-/
import Derived.Test.YtpcflkdeoafpeaaDoorPick
namespace Go.Proofs.YtpcflkdeoafpeaaDoor
open Go.RowKit

/-- Block g is just the cells cs of element type t, none frozen. -/
def Blk (w : World) (g : Nat) (t : TypeId) (cs : Array Value) : Prop := w.heap[g]? = some (.cells cs t (0, 0))
theorem Blk.lt {w : World} {g : Nat} {t : TypeId} {cs : Array Value} (h : Blk w g t cs) : g < w.heap.size := (Array.getElem?_eq_some_iff.1 h).1
theorem Blk.cell {w : World} {g : Nat} {t : TypeId} {cs : Array Value} (h : Blk w g t cs) (i : Nat) : w.cell? ⟨g, i, none⟩ = cs[i]? := cell_of_row w g i cs t (0, 0) h
theorem Blk.free {w : World} {g : Nat} {t : TypeId} {cs : Array Value} (h : Blk w g t cs) (i : Nat) : w.frozen? ⟨g, i, none⟩ = false := frozen_of_row w g i cs t h
theorem Blk.new (w : World) (t : TypeId) (cs : Array Value) : Blk (w.alloc (.cells cs t)) w.heap.size t cs := heap_alloc_new w _
theorem Blk.drewN {w : World} {g : Nat} {t : TypeId} {cs : Array Value} (h : Blk w g t cs) (n : Nat) : Blk (w.drewN n) g t cs := h
theorem Blk.alloc {w : World} {g : Nat} {t : TypeId} {cs : Array Value} (h : Blk w g t cs) (o : Obj) : Blk (w.alloc o) g t cs := (Below.heap_alloc w o g h.lt).trans h
theorem Blk.far {w : World} {g : Nat} {t : TypeId} {cs : Array Value} (h : Blk w g t cs) {p : Addr} (hp : g ≠ p.block) (u : Value) : Blk (w.setCell p u) g t cs := (Below.heap_setCell w p u g hp).trans h
theorem Blk.below {w w' : World} {B g : Nat} {t : TypeId} {cs : Array Value} (h : Blk w g t cs) (hb : Below B w w') (hg : g < B) : Blk w' g t cs := (hb.block g hg).trans h
theorem Blk.kept {w w' : World} {g : Nat} {t : TypeId} {cs : Array Value} (h : Blk w g t cs) (hb : Below w.heap.size w w') : Blk w' g t cs := h.below hb h.lt
theorem Blk.grown {w w' : World} {g : Nat} {t : TypeId} {cs : Array Value} {row : Option Nat} (h : Blk w g t cs) (hb : w.grownBy w' row) (hg : some g ≠ row) : Blk w' g t cs := (hb.block g h.lt hg).trans h
theorem Blk.set_ {w : World} {g : Nat} {t : TypeId} {cs : Array Value} (h : Blk w g t cs) (i : Nat) (u : Value) : Blk (w.setCell ⟨g, i, none⟩ u) g t (cs.setIfInBounds i u) := heap_setCell_same w g i cs t u h
theorem Rd6.far {w : World} {hi g p : Nat} (h : Rd6 w hi g p) {a : Addr} (hp : g ≠ a.block) (hh : hi ≤ a.block) (u : Value) : Rd6 (w.setCell a u) hi g p :=
  h.keep (Below.heap_setCell w a u g hp) fun b hb => Below.heap_setCell w a u b (by omega)
theorem Rd6.segOf {w w' : World} {hi g p b o : Nat} {e : TypeId} {xs : List Value} (hr : Rd6 w hi g p) (h : Seg w e b o xs) (hg : w.grownBy w' (some g)) (he : e ≠ 58) : Seg w' e b o xs := by
  obtain ⟨_, v', bs, hh, _⟩ := hr
  refine h.grown hg fun hq => ?_
  injection hq with hq
  exact Seg.ne_ h (b' := g) (o' := 0) (ys := []) ⟨_, hh, fun j u hu => by simp at hu⟩ he hq

/-- A list of texts. -/
def sv (ss : List ByteArray) : List Value := ss.map Value.string
theorem strs_at {W : World} {ss : List ByteArray} {g : Nat} (hg : g = W.heap.size) : Seg (W.alloc (.cells (sv ss).toArray 9)) 9 g 0 (sv ss) := by
  subst hg
  exact ⟨_, heap_alloc_new W _, fun j u hu => by simpa using hu⟩
/-- Behind a draw out of a list of texts. -/
def DrewStr (w : World) (hi g p m : Nat) (e : Ending) (w' : World) : Prop := ∃ s, e = .returned (.string s) ∧ s.size ≤ m ∧ Rd6 w' hi g (p + 1) ∧ w.grownBy w' (some g)

set_option maxHeartbeats 400000 in
theorem of_any (hi g p b n c m : Nat) (ss : List ByteArray) (w : World) (hr : Rd6 w hi g p) (hp : p ≤ 1000000) (hs : Seg w 9 b 0 (sv ss)) (hn : ss.length = n) (hn1 : 1 ≤ n) (hn2 : n ≤ 1000) (hm : ∀ s ∈ ss, s.size ≤ m) :
    Calls Tryd.prog 46 #[.pointer (some ⟨g, 0, none⟩), .slice (some ⟨b, 0, none⟩) n c] w fun e w' => DrewStr w hi g p m e w' := by
  have HR := Lib.hid hr
  have HS := Lib.hid hs
  have HN := Lib.hid hn
  have HM := Lib.hid hm
  clear hr hs hn hm
  go_enter Tryd.func46, Tryd.ntmps46
  go_wp2_with fail
  refine (pick_any hi g p (n : Int) _ HR.out (by omega) (by omega)).mono ?_
  rintro e w1 ⟨x, rfl, hx, r1, g1⟩
  have hj : ∃ j : Nat, x = j ∧ j < n := ⟨x.toNat, by have := hx.1; have := hx.2; omega, by have := hx.1; have := hx.2; omega⟩
  obtain ⟨j, rfl, hj⟩ := hj
  have S1 := HR.out.segOf HS.out g1 (by decide)
  have hjl : j < ss.length := by rw [HN.out]; exact hj
  obtain ⟨s, hs⟩ : ∃ s, ss[j]? = some s := ⟨ss[j], List.getElem?_eq_getElem hjl⟩
  have hu : (sv ss)[j]? = some (.string s) := by rw [sv, List.getElem?_map, hs]; rfl
  have c1 := S1.cell hu
  rw [Nat.zero_add] at c1
  have hsm : s.size ≤ m := HM.out s (List.mem_of_getElem? hs)
  have hji : (j : Int) < (n : Int) := by omega
  have R1 := Lib.hid r1
  have G1 := Lib.hid g1
  clear hx r1 g1 S1 hjl hs hu
  go_wp2_with fail
  go_ret
  exact ⟨s, rfl, hsm, R1.out, G1.out⟩
end Go.Proofs.YtpcflkdeoafpeaaDoor

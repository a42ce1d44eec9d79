/-
  An address, and a request, that came in as an argument: the cells. Conditions: none.
  A request and a packet that came in as an argument: the cells. Conditions: none.
-/
import Derived.Test.YtpcflkdeoafpeaaDoorKit
import Derived.Test.YtpcflkdeoafpeaaDoorBlk
import Derived.Test.YtpcflkdeoafpeaaDoorAppend
import Derived.Lib.SmallJoins
namespace Go.Proofs.YtpcflkdeoafpeaaDoor
open Go.ChangeShapes Go.WideShapes Go.ChangeAt Go.RowKit Go.Joins

theorem Tryd.cellsInt : Tryd.prog.cellsOf 3 = 1 := by kernel_rfl
theorem Tryd.cellsStr : Tryd.prog.cellsOf 9 = 1 := by kernel_rfl
theorem Tryd.cellsInts : Tryd.prog.cellsOf 25 = 1 := by kernel_rfl
theorem Tryd.cellsAddress : Tryd.prog.cellsOf 51 = 4 := by kernel_rfl

section
variable {H : Type} {enc : TypeId × Value → H} {W : World}
set_option maxRecDepth 100000 in
/-- A slice of integers that came in, out of its one cell. -/
theorem ints_cell {n : Nat} {cs : List Value} {y : DataW H × List MemPlace} (h : DataW.trod enc Tryd.prog W 0 (fun _ => true) true n 25 cs = some y) : ∃ v zs, cs = [v] ∧ Came .i64 W W.heap.size v zs := by
  rcases open_ints Tryd.underlying25 Tryd.underlying3 (by kernel_rfl) h with ⟨hcs, _⟩ | ⟨x, l, c, zs, hcs, _, hl, hm, hz, _, hcell, hwz⟩
  · exact ⟨_, [], hcs, none, 0, rfl, Nat.le_refl _, by omega, by simp, .inl rfl⟩
  · exact ⟨_, _, hcs, (Came.of_row (.inr ⟨x, rfl, hl, hm, by simpa using hz, hcell, hwz⟩)).1⟩
set_option maxRecDepth 100000 in
/-- An address's four cells. -/
theorem ad_cells {n : Nat} {cs : List Value} {y : DataW H × List MemPlace} (h : DataW.trod enc Tryd.prog W 0 (fun _ => true) true n 51 cs = some y) :
    ∃ (k : Int) (q : Value) (nm : ByteArray) (p : Int) (qs : List Int), cs = [.int .i64 k, q, .string nm, .int .i64 p] ∧ Came .i64 W W.heap.size q qs ∧ nm.size ≤ maxLen := by
  obtain ⟨y0, y1, y2, y3, m, _, hl, h0, h1, h2, h3⟩ := trod_struct4 Tryd.underlying51 h
  rw [Tryd.cellsAddress] at hl
  match cs, hl with
  | [c0, c1, c2, c3], _ =>
    simp only [Tryd.cellsInt, Tryd.cellsStr, Tryd.cellsInts] at h0 h1 h2 h3
    obtain ⟨k, e0, _⟩ := DataW.trod_int Tryd.underlying3 h0
    obtain ⟨q, qs, e1, hq⟩ := ints_cell h1
    obtain ⟨nm, e2, _, hn⟩ := DataW.trod_string Tryd.underlying9 h2
    obtain ⟨p, e3, _⟩ := DataW.trod_int Tryd.underlying3 h3
    simp at e0 e1 e2 e3
    subst e0 e1 e2 e3
    exact ⟨k, _, nm, p, qs, rfl, hq, hn⟩
set_option maxRecDepth 100000 in
theorem ad_of {base : Nat} {v : Value} {d : DataW H} {p : List MemPlace}
    (hval : Value.okWide Tryd.prog W .any base 51 v) (h : DataW.Trod enc Tryd.prog W 0 (fun _ => true) true 51 v d p) :
    ∃ (k : Int) (q : Value) (nm : ByteArray) (pt : Int) (qs : List Int), v = .agg #[.int .i64 k, q, .string nm, .int .i64 pt] ∧ Came .i64 W W.heap.size q qs ∧ nm.size ≤ maxLen := by
  obtain ⟨cs, rfl, _⟩ := okWide_struct Tryd.underlying51 hval
  obtain ⟨fuel, hf⟩ := h
  obtain ⟨k, q, nm, pt, qs, e, h1, h2⟩ := ad_cells hf
  refine ⟨k, q, nm, pt, qs, ?_, h1, h2⟩
  obtain ⟨l⟩ := cs
  simp [Value.cells] at e
  rw [e]
end
end Go.Proofs.YtpcflkdeoafpeaaDoor

/-
  A packet that came in as an argument: the cells. Conditions: none.
-/
import Derived.Test.YtolbkdcnmkmncaaDoorAdArg
import Derived.Deep.Strs
namespace Go.Proofs.YtolbkdcnmkmncaaDoor
open Go.ChangeShapes Go.WideShapes Go.ChangeAt Go.RowKit Go.Joins Go.Deep

theorem Tryd.cellsPacket : Tryd.prog.cellsOf 47 = 6 := by kernel_rfl

section
variable {H : Type} {enc : TypeId × Value → H} {W : World}
set_option maxRecDepth 100000 in
/-- A packet's six cells. -/
theorem packet_cells {n : Nat} {cs : List Value} {y : DataW H × List MemPlace} (h : DataW.trod enc Tryd.prog W 0 (fun _ => true) true n 47 cs = some y) :
    ∃ (c k : Int) (q : Value) (nm : ByteArray) (pt : Int) (d : Value) (qs ds : List Int), cs = [.int .i64 c, .int .i64 k, q, .string nm, .int .i64 pt, d] ∧ Came .i64 W W.heap.size q qs ∧ nm.size ≤ maxLen ∧ Came .i64 W W.heap.size d ds := by
  obtain ⟨y0, y1, y2, n, _, hl, h0, h1, h2⟩ := trod_struct3 Tryd.underlying47 h
  rw [Tryd.cellsPacket] at hl
  match cs, hl with
  | [c0, c1, c2, c3, c4, c5], _ =>
    simp only [Tryd.cellsInt, Tryd.cellsAddress, Tryd.cellsInts] at h0 h1 h2
    obtain ⟨c, e0, _⟩ := DataW.trod_int Tryd.underlying3 h0
    obtain ⟨k, q, nm, pt, qs, e1, h3, h4⟩ := ad_cells h1
    obtain ⟨dd, ds, e5, h5⟩ := ints_cell h2
    simp at e0 e1 e5
    obtain ⟨e1, e2, e3, e4⟩ := e1
    subst e0 e1 e2 e3 e4 e5
    exact ⟨c, k, _, nm, pt, _, qs, ds, rfl, h3, h4, h5⟩
set_option maxRecDepth 100000 in
theorem packet_of {base : Nat} {v : Value} {d : DataW H} {p : List MemPlace}
    (hval : Value.okWide Tryd.prog W .any base 47 v) (h : DataW.Trod enc Tryd.prog W 0 (fun _ => true) true 47 v d p) :
    ∃ (c k : Int) (q : Value) (nm : ByteArray) (pt : Int) (dv : Value) (qs ds : List Int), v = .agg #[.int .i64 c, .int .i64 k, q, .string nm, .int .i64 pt, dv] ∧ Came .i64 W W.heap.size q qs ∧ nm.size ≤ maxLen ∧ Came .i64 W W.heap.size dv ds := by
  obtain ⟨cs, rfl, _⟩ := okWide_struct Tryd.underlying47 hval
  obtain ⟨fuel, hf⟩ := h
  obtain ⟨c, k, q, nm, pt, dv, qs, ds, e, h1, h2, h3⟩ := packet_cells hf
  refine ⟨c, k, q, nm, pt, dv, qs, ds, ?_, h1, h2, h3⟩
  obtain ⟨l⟩ := cs
  simp [Value.cells] at e
  rw [e]
end
end Go.Proofs.YtolbkdcnmkmncaaDoor

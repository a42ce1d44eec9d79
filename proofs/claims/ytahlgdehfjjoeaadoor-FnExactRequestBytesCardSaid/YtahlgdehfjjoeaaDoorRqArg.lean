/-
  A request and a packet that came in as an argument: the cells. Conditions: none.
-/
import Derived.Test.YtahlgdehfjjoeaaDoorAdArg
import Derived.Deep.Strs
namespace Go.Proofs.YtahlgdehfjjoeaaDoor
open Go.ChangeShapes Go.WideShapes Go.ChangeAt Go.RowKit Go.Joins Go.Deep

theorem Tryd.cellsRequest : Tryd.prog.cellsOf 48 = 5 := by kernel_rfl

section
variable {H : Type} {enc : TypeId × Value → H} {W : World}
set_option maxRecDepth 100000 in
theorem request_of {base : Nat} {v : Value} {d : DataW H} {p : List MemPlace}
    (hval : Value.okWide Tryd.prog W .any base 48 v) (h : DataW.Trod enc Tryd.prog W 0 (fun _ => true) true 48 v d p) :
    ∃ (c k : Int) (q : Value) (nm : ByteArray) (pt : Int) (qs : List Int), v = .agg #[.int .i64 c, .int .i64 k, q, .string nm, .int .i64 pt] ∧ Came .i64 W W.heap.size q qs ∧ nm.size ≤ maxLen := by
  obtain ⟨cs, rfl, _⟩ := okWide_struct Tryd.underlying48 hval
  obtain ⟨fuel, hf⟩ := h
  obtain ⟨l⟩ := cs
  simp only [Value.cells] at hf
  obtain ⟨y0, y1, n, _, hl, h0, h1⟩ := trod_struct2 Tryd.underlying48 hf
  rw [Tryd.cellsRequest] at hl
  match l, hl with
  | [c0, c1, c2, c3, c4], _ =>
    simp only [Tryd.cellsInt, Tryd.cellsAddress] at h0 h1
    obtain ⟨c, e0, _⟩ := DataW.trod_int Tryd.underlying3 h0
    obtain ⟨k, q, nm, pt, qs, e1, h2, h3⟩ := ad_cells h1
    simp at e0 e1
    obtain ⟨e1, e2, e3, e4⟩ := e1
    subst e0 e1 e2 e3 e4
    exact ⟨c, k, _, nm, pt, qs, rfl, h2, h3⟩
end
end Go.Proofs.YtahlgdehfjjoeaaDoor

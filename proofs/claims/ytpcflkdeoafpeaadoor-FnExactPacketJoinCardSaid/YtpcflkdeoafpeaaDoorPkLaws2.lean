/-
  A packet that came in as an argument: the cells. Conditions: none.
  The laws' own helpers at packets: szPacket, toPacket, eqPacket, markPacket, heldPacket, samePacket. Conditions: the quads and the data read as lists of integers.
  The laws' own helpers at packets: toPacket, markPacket, heldPacket, samePacket. Conditions: the quads and the data read as lists of integers.
-/
import Derived.Test.YtpcflkdeoafpeaaDoorAdArg
import Derived.Deep.Strs
import Derived.Test.YtpcflkdeoafpeaaDoorAdLaws
import Derived.Test.YtpcflkdeoafpeaaDoorSameAd
namespace Go.Proofs.YtpcflkdeoafpeaaDoor
open Go.ChangeShapes Go.WideShapes Go.ChangeAt Go.RowKit Go.Joins Go.Deep

theorem Tryd.cellsPacket : Tryd.prog.cellsOf 53 = 6 := by kernel_rfl

section
variable {H : Type} {enc : TypeId × Value → H} {W : World}
set_option maxRecDepth 100000 in
/-- A packet's six cells. -/
theorem packet_cells {n : Nat} {cs : List Value} {y : DataW H × List MemPlace} (h : DataW.trod enc Tryd.prog W 0 (fun _ => true) true n 53 cs = some y) :
    ∃ (c k : Int) (q : Value) (nm : ByteArray) (pt : Int) (d : Value) (qs ds : List Int), cs = [.int .i64 c, .int .i64 k, q, .string nm, .int .i64 pt, d] ∧ Came .i64 W W.heap.size q qs ∧ nm.size ≤ maxLen ∧ Came .i64 W W.heap.size d ds := by
  obtain ⟨y0, y1, y2, n, _, hl, h0, h1, h2⟩ := trod_struct3 Tryd.underlying53 h
  rw [Tryd.cellsPacket] at hl
  match cs, hl with
  | [c0, c1, c2, c3, c4, c5], _ =>
    simp only [Tryd.cellsInt, Tryd.cellsAddress, Tryd.cellsInts] at h0 h1 h2
    obtain ⟨c, e0, _⟩ := DataW.trod_int Tryd.underlying3 h0
    obtain ⟨k, q, nm, pt, qs, e1, h3, h4⟩ := ad_cells h1
    obtain ⟨dd, ds, e5, h5⟩ := ints_cell h2
    simp at e0 e1 e5
    obtain ⟨e1, e2, e3, e4⟩ := e1
    subst e0 e1 e2 e3 e4 e5
    exact ⟨c, k, _, nm, pt, _, qs, ds, rfl, h3, h4, h5⟩
set_option maxRecDepth 100000 in
theorem packet_of {base : Nat} {v : Value} {d : DataW H} {p : List MemPlace}
    (hval : Value.okWide Tryd.prog W .any base 53 v) (h : DataW.Trod enc Tryd.prog W 0 (fun _ => true) true 53 v d p) :
    ∃ (c k : Int) (q : Value) (nm : ByteArray) (pt : Int) (dv : Value) (qs ds : List Int), v = .agg #[.int .i64 c, .int .i64 k, q, .string nm, .int .i64 pt, dv] ∧ Came .i64 W W.heap.size q qs ∧ nm.size ≤ maxLen ∧ Came .i64 W W.heap.size dv ds := by
  obtain ⟨cs, rfl, _⟩ := okWide_struct Tryd.underlying53 hval
  obtain ⟨fuel, hf⟩ := h
  obtain ⟨c, k, q, nm, pt, dv, qs, ds, e, h1, h2, h3⟩ := packet_cells hf
  refine ⟨c, k, q, nm, pt, dv, qs, ds, ?_, h1, h2, h3⟩
  obtain ⟨l⟩ := cs
  simp [Value.cells] at e
  rw [e]
end
end Go.Proofs.YtpcflkdeoafpeaaDoor
namespace Go.Proofs.YtpcflkdeoafpeaaDoor
open Go.RowKit

def pkC (f k : Int) (q : Value) (nm : ByteArray) (p : Int) (d : Value) : Array Value := #[.int .i64 f, .int .i64 k, q, .string nm, .int .i64 p, d]

set_option maxRecDepth 100000 in
set_option maxHeartbeats 1000000 in
theorem szPacket_fits (f k : Int) (q : Value) (nm : ByteArray) (p : Int) (d : Value) (qs ds : List Int) (hi : Nat) (left : Int) (w : World) (hq : Came .i64 w hi q qs) (hd : Came .i64 w hi d ds) (hh : hi ≤ w.heap.size) (h : (qs.length : Int) + nm.size + ds.length ≤ left) (h1 : left ≤ 1048576) :
    Calls Tryd.prog 25 #[.agg #[.int .i64 f, .int .i64 k, q, .string nm, .int .i64 p, d], .int .i64 left] w fun e w' => e = .returned (.int .i64 (left - qs.length - nm.size - ds.length)) ∧ Below w.heap.size w w' := by
  have HQ := Lib.hid hq
  have HD := Lib.hid hd
  obtain ⟨A, c, rfl, hc, hm, _, _⟩ := hq
  obtain ⟨A2, c2, rfl, hc2, hm2, _, _⟩ := hd
  obtain ⟨V, hV⟩ : ∃ V, w.alloc (.cells #[.int .i64 f, .int .i64 k, .slice A qs.length c, .string nm, .int .i64 p, .slice A2 ds.length c2] 53) = V := ⟨_, rfl⟩
  have K : Hid (Blk V w.heap.size 53 #[.int .i64 f, .int .i64 k, .slice A qs.length c, .string nm, .int .i64 p, .slice A2 ds.length c2]) := Lib.hid (by rw [← hV]; exact Blk.new _ _ _)
  have B : Hid (Below w.heap.size w V) := Lib.hid (by rw [← hV]; exact (Below.refl _ _).alloc (Nat.le_refl _) _)
  have a1 : V.cell? ⟨w.heap.size, 1, none⟩ = some (.int .i64 k) := K.out.cell 1
  have a2 : V.cell? ⟨w.heap.size, 2, none⟩ = some (.slice A qs.length c) := K.out.cell 2
  have a3 : V.cell? ⟨w.heap.size, 3, none⟩ = some (.string nm) := K.out.cell 3
  have a4 : V.cell? ⟨w.heap.size, 4, none⟩ = some (.int .i64 p) := K.out.cell 4
  have h2 : ¬ left - (qs.length : Int) - (nm.size : Int) < 0 := by omega
  have h3 : ¬ left - (qs.length : Int) - (nm.size : Int) - (ds.length : Int) < 0 := by omega
  have h4 : (ds.length : Int) ≤ left - (qs.length : Int) - (nm.size : Int) := by omega
  have h5 : left - (qs.length : Int) - (nm.size : Int) ≤ 1048576 := by omega
  have h6 : (qs.length : Int) + nm.size ≤ left := by omega
  clear h
  go_enter Tryd.func25, Tryd.ntmps25
  go_wp2_with fail
  clear hV a1 a2 a3 a4
  refine (szAddress_fits k _ nm p qs hi left _ (HQ.out.below (B.out.mono hh)) (Nat.le_trans hh B.out.size) h6 h1).mono ?_
  rintro e w1 ⟨rfl, b1⟩
  have K1 := Lib.hid (K.out.kept b1)
  have B1 := Lib.hid (B.out.trans (b1.mono B.out.size))
  have a5 : w1.cell? ⟨w.heap.size, 5, none⟩ = some (.slice A2 ds.length c2) := K1.out.cell 5
  clear b1
  go_wp2_with fail
  refine (szIntS_fits _ ds hi _ _ (HD.out.below (B1.out.mono hh)) h4 h5).mono ?_
  rintro e w2 ⟨rfl, rfl⟩
  go_wp2_with fail
  go_ret
  exact ⟨rfl, B1.out⟩
set_option maxRecDepth 100000 in
set_option maxHeartbeats 1000000 in
theorem szPacket_not (f k : Int) (q : Value) (nm : ByteArray) (p : Int) (d : Value) (qs ds : List Int) (hi : Nat) (left : Int) (w : World) (hq : Came .i64 w hi q qs) (hd : Came .i64 w hi d ds) (hh : hi ≤ w.heap.size) (h : left < (qs.length : Int) + nm.size + ds.length) (h0 : 0 ≤ left) (h1 : left ≤ 1048576) (hn : nm.size ≤ maxLen) :
    Calls Tryd.prog 25 #[.agg #[.int .i64 f, .int .i64 k, q, .string nm, .int .i64 p, d], .int .i64 left] w fun e w' => e = .returned (.int .i64 (-1)) ∧ Below w.heap.size w w' := by
  have HQ := Lib.hid hq
  have HD := Lib.hid hd
  have HN := Lib.hid hn
  obtain ⟨A, c, rfl, hc, hm, _, _⟩ := hq
  obtain ⟨A2, c2, rfl, hc2, hm2, _, _⟩ := hd
  obtain ⟨V, hV⟩ : ∃ V, w.alloc (.cells #[.int .i64 f, .int .i64 k, .slice A qs.length c, .string nm, .int .i64 p, .slice A2 ds.length c2] 53) = V := ⟨_, rfl⟩
  have K : Hid (Blk V w.heap.size 53 #[.int .i64 f, .int .i64 k, .slice A qs.length c, .string nm, .int .i64 p, .slice A2 ds.length c2]) := Lib.hid (by rw [← hV]; exact Blk.new _ _ _)
  have B : Hid (Below w.heap.size w V) := Lib.hid (by rw [← hV]; exact (Below.refl _ _).alloc (Nat.le_refl _) _)
  have a1 : V.cell? ⟨w.heap.size, 1, none⟩ = some (.int .i64 k) := K.out.cell 1
  have a2 : V.cell? ⟨w.heap.size, 2, none⟩ = some (.slice A qs.length c) := K.out.cell 2
  have a3 : V.cell? ⟨w.heap.size, 3, none⟩ = some (.string nm) := K.out.cell 3
  have a4 : V.cell? ⟨w.heap.size, 4, none⟩ = some (.int .i64 p) := K.out.cell 4
  clear hn
  by_cases h6 : (qs.length : Int) + nm.size ≤ left
  · have h2 : ¬ left - (qs.length : Int) - (nm.size : Int) < 0 := by omega
    have h4 : left - (qs.length : Int) - (nm.size : Int) < (ds.length : Int) := by omega
    have h5 : left - (qs.length : Int) - (nm.size : Int) ≤ 1048576 := by omega
    have h7 : 0 ≤ left - (qs.length : Int) - (nm.size : Int) := by omega
    clear h
    go_enter Tryd.func25, Tryd.ntmps25
    go_wp2_with fail
    clear hV a1 a2 a3 a4
    refine (szAddress_fits k _ nm p qs hi left _ (HQ.out.below (B.out.mono hh)) (Nat.le_trans hh B.out.size) h6 h1).mono ?_
    rintro e w1 ⟨rfl, b1⟩
    have K1 := Lib.hid (K.out.kept b1)
    have B1 := Lib.hid (B.out.trans (b1.mono B.out.size))
    have a5 : w1.cell? ⟨w.heap.size, 5, none⟩ = some (.slice A2 ds.length c2) := K1.out.cell 5
    clear b1
    go_wp2_with fail
    refine (szIntS_not _ ds hi _ _ (HD.out.below (B1.out.mono hh)) h4 h7 h5).mono ?_
    rintro e w2 ⟨rfl, rfl⟩
    go_wp2_with fail
    go_ret
    exact ⟨rfl, B1.out⟩
  · have h6' : left < (qs.length : Int) + nm.size := by omega
    clear h h6
    go_enter Tryd.func25, Tryd.ntmps25
    go_wp2_with fail
    clear hV a1 a2 a3 a4
    refine (szAddress_not k _ nm p qs hi left _ (HQ.out.below (B.out.mono hh)) (Nat.le_trans hh B.out.size) h6' h0 h1 HN.out).mono ?_
    rintro e w1 ⟨rfl, b1⟩
    have B1 := Lib.hid (B.out.trans (b1.mono B.out.size))
    clear b1
    go_wp2_with fail
    go_ret
    exact ⟨rfl, B1.out⟩

set_option maxRecDepth 100000 in
set_option maxHeartbeats 2000000 in
theorem eqPacket_same (f k : Int) (q q2 : Value) (nm : ByteArray) (p : Int) (d d2 : Value) (qs ds : List Int) (w : World) (h1 : Ints w 0 q qs) (h2 : Ints w 0 q2 qs) (h3 : Ints w 0 d ds) (h4 : Ints w 0 d2 ds) :
    Calls Tryd.prog 27 #[.agg #[.int .i64 f, .int .i64 k, q, .string nm, .int .i64 p, d], .agg #[.int .i64 f, .int .i64 k, q2, .string nm, .int .i64 p, d2]] w fun e w' => e = .returned (.bool true) ∧ Below w.heap.size w w' := by
  have H1 := Lib.hid h1
  have H2 := Lib.hid h2
  have H3 := Lib.hid h3
  have H4 := Lib.hid h4
  obtain ⟨A, c, rfl, _, _, _⟩ := h1.open_
  obtain ⟨A2, c2, rfl, _, _, _⟩ := h2.open_
  obtain ⟨A3, c3, rfl, _, _, _⟩ := h3.open_
  obtain ⟨A4, c4, rfl, _, _, _⟩ := h4.open_
  have B0 : Hid (∀ cs es, Below w.heap.size w ((w.alloc (.cells cs 32)).alloc (.cells es 32))) := Lib.hid fun cs es => ((Below.refl _ _).alloc (Nat.le_refl _) _).alloc (by simp) _
  have K0 := Lib.hid ((Blk.new w 32 #[.int .i64 f, .int .i64 k, .slice A qs.length c, .string nm, .int .i64 p, .slice A3 ds.length c3]).alloc (.cells #[.int .i64 f, .int .i64 k, .slice A2 qs.length c2, .string nm, .int .i64 p, .slice A4 ds.length c4] 32))
  have X0 : Hid (Blk ((w.alloc (.cells #[.int .i64 f, .int .i64 k, .slice A qs.length c, .string nm, .int .i64 p, .slice A3 ds.length c3] 32)).alloc (.cells #[.int .i64 f, .int .i64 k, .slice A2 qs.length c2, .string nm, .int .i64 p, .slice A4 ds.length c4] 32)) (w.heap.size + 1) 32 #[.int .i64 f, .int .i64 k, .slice A2 qs.length c2, .string nm, .int .i64 p, .slice A4 ds.length c4]) := Lib.hid (Blk.new_ (by simp))
  clear h1 h2 h3 h4
  go_enter Tryd.func27, Tryd.ntmps27
  go_wp2_with fail
  refine (eqAddress_same k _ _ nm p qs _ ((H1.out.alloc _).alloc _) ((H2.out.alloc _).alloc _)).mono ?_
  rintro e w1 ⟨rfl, b1⟩
  have K1 := Lib.hid (K0.out.kept b1)
  have X1 := Lib.hid (X0.out.kept b1)
  have B1 := Lib.hid ((B0.out _ _).trans (b1.mono (by simp; omega)))
  have I3 := Lib.hid (((H3.out.alloc _).alloc _).below b1)
  have I4 := Lib.hid (((H4.out.alloc _).alloc _).below b1)
  have a5 : w1.cell? ⟨w.heap.size, 5, none⟩ = some (.slice A3 ds.length c3) := K1.out.cell 5
  have x5 : w1.cell? ⟨w.heap.size + 1, 5, none⟩ = some (.slice A4 ds.length c4) := X1.out.cell 5
  clear b1
  go_wp2_with fail
  refine (eqIntS_any _ _ ds ds _ I3.out I4.out).mono ?_
  rintro e w2 ⟨rfl, n2, rfl⟩
  rw [decide_eq_true rfl]
  go_wp2_with fail
  go_ret
  exact ⟨rfl, below_drewN B1.out n2⟩
end Go.Proofs.YtpcflkdeoafpeaaDoor
namespace Go.Proofs.YtpcflkdeoafpeaaDoor
open Go.RowKit

end Go.Proofs.YtpcflkdeoafpeaaDoor

/-
  The laws' own helpers at packets: toPacket, markPacket, heldPacket, samePacket. Conditions: the quads and the data read as lists of integers.
-/
import Derived.Test.YtolbkdcnmkmncaaDoorPkLaws
namespace Go.Proofs.YtolbkdcnmkmncaaDoor
open Go.RowKit

set_option maxRecDepth 100000 in
set_option maxHeartbeats 2000000 in
theorem samePacket_same (f k : Int) (q q2 : Value) (nm : ByteArray) (p : Int) (d d2 : Value) (qs ds : List Int) (w : World) (h1 : Ints w 0 q qs) (h2 : Ints w 0 q2 qs) (h3 : Ints w 0 d ds) (h4 : Ints w 0 d2 ds) :
    Calls Tryd.prog 42 #[.agg #[.int .i64 f, .int .i64 k, q, .string nm, .int .i64 p, d], .agg #[.int .i64 f, .int .i64 k, q2, .string nm, .int .i64 p, d2]] w fun e w' => e = .returned (.bool true) ∧ Below w.heap.size w w' := by
  have H1 := Lib.hid h1
  have H2 := Lib.hid h2
  have H3 := Lib.hid h3
  have H4 := Lib.hid h4
  obtain ⟨A, c, rfl, _, _, _⟩ := h1.open_
  obtain ⟨A2, c2, rfl, _, _, _⟩ := h2.open_
  obtain ⟨A3, c3, rfl, _, _, _⟩ := h3.open_
  obtain ⟨A4, c4, rfl, _, _, _⟩ := h4.open_
  have B0 : Hid (∀ cs es, Below w.heap.size w ((w.alloc (.cells cs 41)).alloc (.cells es 41))) := Lib.hid fun cs es => ((Below.refl _ _).alloc (Nat.le_refl _) _).alloc (by simp) _
  have K0 := Lib.hid ((Blk.new w 41 #[.int .i64 f, .int .i64 k, .slice A qs.length c, .string nm, .int .i64 p, .slice A3 ds.length c3]).alloc (.cells #[.int .i64 f, .int .i64 k, .slice A2 qs.length c2, .string nm, .int .i64 p, .slice A4 ds.length c4] 41))
  have X0 : Hid (Blk ((w.alloc (.cells #[.int .i64 f, .int .i64 k, .slice A qs.length c, .string nm, .int .i64 p, .slice A3 ds.length c3] 41)).alloc (.cells #[.int .i64 f, .int .i64 k, .slice A2 qs.length c2, .string nm, .int .i64 p, .slice A4 ds.length c4] 41)) (w.heap.size + 1) 41 #[.int .i64 f, .int .i64 k, .slice A2 qs.length c2, .string nm, .int .i64 p, .slice A4 ds.length c4]) := Lib.hid (Blk.new_ (by simp))
  clear h1 h2 h3 h4
  go_enter Tryd.func42, Tryd.ntmps42
  go_wp2_with fail
  refine (sameAddress_same k _ _ nm p qs _ ((H1.out.alloc _).alloc _) ((H2.out.alloc _).alloc _)).mono ?_
  rintro e w1 ⟨rfl, b1⟩
  have K1 := Lib.hid (K0.out.kept b1)
  have X1 := Lib.hid (X0.out.kept b1)
  have B1 := Lib.hid ((B0.out _ _).trans (b1.mono (by simp; omega)))
  have I3 := Lib.hid (((H3.out.alloc _).alloc _).below b1)
  have I4 := Lib.hid (((H4.out.alloc _).alloc _).below b1)
  have a5 : w1.cell? ⟨w.heap.size, 5, none⟩ = some (.slice A3 ds.length c3) := K1.out.cell 5
  have x5 : w1.cell? ⟨w.heap.size + 1, 5, none⟩ = some (.slice A4 ds.length c4) := X1.out.cell 5
  clear b1
  go_wp2_with fail
  refine (sameBytes_any _ _ ds ds _ I3.out I4.out).mono ?_
  rintro e w2 ⟨rfl, n2, rfl⟩
  rw [decide_eq_true rfl]
  go_wp2_with fail
  go_ret
  exact ⟨rfl, below_drewN B1.out n2⟩

set_option maxRecDepth 100000 in
set_option maxHeartbeats 2000000 in
theorem heldPacket_any (f k : Int) (q : Value) (nm : ByteArray) (p : Int) (d : Value) (m : Int) (n n2 : Nat) (w : World) (hq : Ints w 0 q (marks m n)) (hd : Ints w 0 d (marks (m + n) n2)) (h0 : 0 ≤ m) (h1 : m + n ≤ 1099511627776) (h2 : n ≤ 1099511627776) (h3 : n2 ≤ 1099511627776) :
    Calls Tryd.prog 41 #[.agg #[.int .i64 f, .int .i64 k, q, .string nm, .int .i64 p, d], .int .i64 m] w fun e w' => e = .returned (.int .i64 (m + n + n2)) ∧ Below w.heap.size w w' := by
  have HQ := Lib.hid hq
  have HD := Lib.hid hd
  obtain ⟨A, c, rfl, _, _, _⟩ := hq.open_
  obtain ⟨A2, c2, rfl, _, _, _⟩ := hd.open_
  obtain ⟨V, hV⟩ : ∃ V, w.alloc (.cells #[.int .i64 f, .int .i64 k, .slice A (marks m n).length c, .string nm, .int .i64 p, .slice A2 (marks (m + n) n2).length c2] 41) = V := ⟨_, rfl⟩
  have K : Hid (Blk V w.heap.size 41 #[.int .i64 f, .int .i64 k, .slice A (marks m n).length c, .string nm, .int .i64 p, .slice A2 (marks (m + n) n2).length c2]) := Lib.hid (by rw [← hV]; exact Blk.new _ _ _)
  have B : Hid (Below w.heap.size w V) := Lib.hid (by rw [← hV]; exact (Below.refl _ _).alloc (Nat.le_refl _) _)
  have IQ : Hid (Ints V 0 (.slice A (marks m n).length c) (marks m n)) := Lib.hid (by rw [← hV]; exact HQ.out.alloc _)
  have ID : Hid (Ints V 0 (.slice A2 (marks (m + n) n2).length c2) (marks (m + n) n2)) := Lib.hid (by rw [← hV]; exact HD.out.alloc _)
  have a1 : V.cell? ⟨w.heap.size, 1, none⟩ = some (.int .i64 k) := K.out.cell 1
  have a2 : V.cell? ⟨w.heap.size, 2, none⟩ = some (.slice A (marks m n).length c) := K.out.cell 2
  have a3 : V.cell? ⟨w.heap.size, 3, none⟩ = some (.string nm) := K.out.cell 3
  have a4 : V.cell? ⟨w.heap.size, 4, none⟩ = some (.int .i64 p) := K.out.cell 4
  have h4 : ¬ m + (n : Int) < 0 := by omega
  have h5 : ¬ m + (n : Int) + (n2 : Int) < 0 := by omega
  have h6 : 0 ≤ m + (n : Int) := by omega
  have h7 : m ≤ 1099511627776 := by omega
  clear hq hd
  go_enter Tryd.func41, Tryd.ntmps41
  go_wp2_with fail
  clear hV a1 a2 a3 a4
  refine (heldAddress_any k _ nm p m n _ IQ.out h0 h7 h2).mono ?_
  rintro e w1 ⟨rfl, b1⟩
  have K1 := Lib.hid (K.out.kept b1)
  have B1 := Lib.hid (B.out.trans (b1.mono B.out.size))
  have D1 := Lib.hid (ID.out.below b1)
  have a5 : w1.cell? ⟨w.heap.size, 5, none⟩ = some (.slice A2 (marks (m + n) n2).length c2) := K1.out.cell 5
  clear b1
  go_wp2_with fail
  refine (heldIntS_any _ (m + n) n2 _ D1.out h6 h1 h3).mono ?_
  rintro e w2 ⟨rfl, rfl⟩
  go_wp2_with fail
  go_ret
  exact ⟨rfl, B1.out⟩
end Go.Proofs.YtolbkdcnmkmncaaDoor

/-
  PacketFrom of the program returns what the reference's returns, for all arguments, in memory that it shares with nothing. Conditions: none.
-/
import Derived.Test.YtolbkdcnmkmncaaDoorKitC
import Derived.Test.YtolbkdcnmkmncaaDoorPkLaws3
import Derived.Test.YtolbkdcnmkmncaaDoorPkFrom3
namespace Go.Proofs.YtolbkdcnmkmncaaDoor.fnExactPacketFrom
open Go.ChangeShapes Go.WideShapes Go.ChangeAt Go.RowKit

set_option maxRecDepth 100000 in
set_option maxHeartbeats 8000000 in
theorem walk (v : Value) (zs : List Int) (w : World) (hv : Came .i64 w w.heap.size v zs) : Calls Tryd.prog 7 #[v] w fun e w' => e = .returned (.bool true) ∧ Below w.heap.size w w' := by
  have hv0 := Lib.hid hv
  obtain ⟨A, c, rfl, hc, hm, _, _⟩ := hv
  by_cases hl : 1048576 < zs.length
  · have hl' : (1048576 : Int) < (zs.length : Int) := by omega
    go_enter Tryd.func7, Tryd.ntmps7
    go_wp2_with fail
    go_ret
    exact ⟨rfl, Below.refl _ _⟩
  have hl' : (zs.length : Int) ≤ 1048576 := by omega
  obtain ⟨C, K, M, P, b, Q, E, hT, hQ, hE, hQl, hEl⟩ : ∃ C K M P b Q E, (∀ q d, PpT (ppOk zs) zs q d = .tuple #[.agg #[.int .i64 C, .int .i64 K, q, .string M, .int .i64 P, d], .bool b]) ∧ ppQ (ppOk zs) zs = Q ∧ ppE (ppOk zs) zs = E ∧ Q.length ≤ 4 ∧ E.length ≤ 120 :=
    ⟨_, _, _, _, _, _, _, fun _ _ => rfl, rfl, rfl, ppQ_len zs, ppE_len zs⟩
  have HI : Hid (∀ u W, Ints W 0 u zs → Calls Tryd.prog 40 #[u] W fun e w' => ∃ q d, e = .returned (.tuple #[.agg #[.int .i64 C, .int .i64 K, q, .string M, .int .i64 P, d], .bool b]) ∧ Own w' W.heap.size q Q ∧ Own w' W.heap.size d E ∧ (q.ownBlock = none ∨ q.ownBlock ≠ d.ownBlock) ∧ Below W.heap.size W w') := Lib.hid fun u W h =>
    (impl_PacketFrom_any u zs W h).mono fun e w' ⟨q, d, h1, h2, h3, h4, h5⟩ => ⟨q, d, by rw [h1, hT], by rw [← hQ]; exact h2, by rw [← hE]; exact h3, h4, h5⟩
  have HS : Hid (∀ u W, Ints W 0 u zs → Calls Tryd.prog 38 #[u] W fun e w' => ∃ q d, e = .returned (.tuple #[.agg #[.int .i64 C, .int .i64 K, q, .string M, .int .i64 P, d], .bool b]) ∧ Own w' W.heap.size q Q ∧ Own w' W.heap.size d E ∧ (q.ownBlock = none ∨ q.ownBlock ≠ d.ownBlock) ∧ Below W.heap.size W w') := Lib.hid fun u W h =>
    (spec_PacketFrom_any u zs W h).mono fun e w' ⟨q, d, h1, h2, h3, h4, h5⟩ => ⟨q, d, by rw [h1, hT], by rw [← hQ]; exact h2, by rw [← hE]; exact h3, h4, h5⟩
  clear hl hT hQ hE
  go_enter Tryd.func7, Tryd.ntmps7
  go_wp2_with fail
  refine (toIntS_any _ zs w.heap.size w hv0.out (Nat.le_refl _) (by omega)).mono ?_
  rintro e w1 ⟨u1, rfl, o1, b1⟩
  have O1 := Lib.hid o1
  have B1 := Lib.hid b1
  clear o1 b1
  go_wp2_with fail
  refine (HS.out _ _ O1.out.ints.zero).mono ?_
  rintro e w2 ⟨q2, d2, rfl, o2, p2, _, b2⟩
  obtain ⟨A2, c2, rfl, _, _, _⟩ := o2.form
  obtain ⟨D2, e2, rfl, _, _, _⟩ := p2.form
  obtain ⟨V2, hV2⟩ : ∃ V2, w2.alloc (.cells #[.int .i64 C, .int .i64 K, .slice A2 Q.length c2, .string M, .int .i64 P, .slice D2 E.length e2] 41) = V2 := ⟨_, rfl⟩
  have B2 : Hid (Below w.heap.size w V2) := Lib.hid (by rw [← hV2]; exact (B1.out.trans (b2.mono B1.out.size)).alloc (B1.out.trans (b2.mono B1.out.size)).size _)
  have K2 : Hid (Blk V2 w2.heap.size 41 #[.int .i64 C, .int .i64 K, .slice A2 Q.length c2, .string M, .int .i64 P, .slice D2 E.length e2]) := Lib.hid (by rw [← hV2]; exact Blk.new _ _ _)
  have O2 : Hid (Own V2 _ (.slice A2 Q.length c2) Q) := Lib.hid (by rw [← hV2]; exact o2.alloc _)
  have P2 : Hid (Own V2 _ (.slice D2 E.length e2) E) := Lib.hid (by rw [← hV2]; exact p2.alloc _)
  have z2 : w2.heap.size < V2.heap.size := K2.out.lt
  clear b2 O1 o2 p2
  go_wp2_with fail
  clear hV2
  refine (toIntS_any _ zs w.heap.size _ (hv0.out.below B2.out) B2.out.size (by omega)).mono ?_
  rintro e w3 ⟨y3, rfl, o3, b3⟩
  have O3 := Lib.hid o3
  have P23 := Lib.hid (O2.out.ahead o3)
  have P23' := Lib.hid (P2.out.ahead o3)
  have N3 := Lib.hid (o3.newer (g := w2.heap.size) z2)
  have O23 := Lib.hid (O2.out.below b3)
  have D23 := Lib.hid (P2.out.below b3)
  have B3 := Lib.hid (B2.out.trans (b3.mono B2.out.size))
  have K3 := Lib.hid (K2.out.kept b3)
  have z3 : w2.heap.size < w3.heap.size := K3.out.lt
  clear o3 b3 K2 O2 P2
  go_wp2_with fail
  refine (HI.out _ _ O3.out.ints.zero).mono ?_
  rintro e w4 ⟨q4, d4, rfl, o4, p4, n4, b4⟩
  have NA := Lib.hid n4
  have NB := Lib.hid (apart_symm n4)
  obtain ⟨A4, c4, rfl, _, _, _⟩ := o4.form
  obtain ⟨D4, e4, rfl, _, _, _⟩ := p4.form
  have P24 := Lib.hid (O23.out.ahead o4)
  have P24d := Lib.hid (O23.out.ahead p4)
  have Q24 := Lib.hid (D23.out.ahead o4)
  have Q24d := Lib.hid (D23.out.ahead p4)
  have P43 := Lib.hid (O3.out.past o4)
  have P43d := Lib.hid (O3.out.past p4)
  have N4 := Lib.hid (o4.newer (g := w2.heap.size) z3)
  have N4d := Lib.hid (p4.newer (g := w2.heap.size) z3)
  have N44 := Lib.hid (o4.oldBlk (Nat.le_refl _))
  have N44d := Lib.hid (p4.oldBlk (Nat.le_refl _))
  have N34 := Lib.hid ((O3.out.below b4).oldBlk (Nat.le_refl _))
  have hbs3 : w.heap.size ≤ w3.heap.size := B3.out.size
  have hbs2 : w.heap.size ≤ V2.heap.size := B2.out.size
  obtain ⟨V4, hV4⟩ : ∃ V4, w4.alloc (.cells #[.int .i64 C, .int .i64 K, .slice A4 Q.length c4, .string M, .int .i64 P, .slice D4 E.length e4] 41) = V4 := ⟨_, rfl⟩
  have O4 : Hid (Own V4 w3.heap.size (.slice A4 Q.length c4) Q) := Lib.hid (by rw [← hV4]; exact o4.alloc _)
  have D4_ : Hid (Own V4 w3.heap.size (.slice D4 E.length e4) E) := Lib.hid (by rw [← hV4]; exact p4.alloc _)
  have O34 : Hid (Own V4 V2.heap.size y3 zs) := Lib.hid (by rw [← hV4]; exact (O3.out.below b4).alloc _)
  have O24 : Hid (Own V4 _ (.slice A2 Q.length c2) Q) := Lib.hid (by rw [← hV4]; exact (O23.out.below b4).alloc _)
  have D24 : Hid (Own V4 _ (.slice D2 E.length e2) E) := Lib.hid (by rw [← hV4]; exact (D23.out.below b4).alloc _)
  have B4 : Hid (Below w.heap.size w V4) := Lib.hid (by rw [← hV4]; exact (B3.out.trans (b4.mono B3.out.size)).alloc (B3.out.trans (b4.mono B3.out.size)).size _)
  have K4 : Hid (Blk V4 w2.heap.size 41 #[.int .i64 C, .int .i64 K, .slice A2 Q.length c2, .string M, .int .i64 P, .slice D2 E.length e2]) := Lib.hid (by rw [← hV4]; exact (K3.out.kept b4).alloc _)
  have X4 : Hid (Blk V4 w4.heap.size 41 #[.int .i64 C, .int .i64 K, .slice A4 Q.length c4, .string M, .int .i64 P, .slice D4 E.length e4]) := Lib.hid (by rw [← hV4]; exact Blk.new _ _ _)
  have a0 : V4.cell? ⟨w2.heap.size, 0, none⟩ = some (.int .i64 C) := K4.out.cell 0
  have a1 : V4.cell? ⟨w2.heap.size, 1, none⟩ = some (.int .i64 K) := K4.out.cell 1
  have a2 : V4.cell? ⟨w2.heap.size, 2, none⟩ = some (.slice A2 Q.length c2) := K4.out.cell 2
  have a3 : V4.cell? ⟨w2.heap.size, 3, none⟩ = some (.string M) := K4.out.cell 3
  have a4 : V4.cell? ⟨w2.heap.size, 4, none⟩ = some (.int .i64 P) := K4.out.cell 4
  have a5 : V4.cell? ⟨w2.heap.size, 5, none⟩ = some (.slice D2 E.length e2) := K4.out.cell 5
  have x0 : V4.cell? ⟨w4.heap.size, 0, none⟩ = some (.int .i64 C) := X4.out.cell 0
  have x1 : V4.cell? ⟨w4.heap.size, 1, none⟩ = some (.int .i64 K) := X4.out.cell 1
  have x2 : V4.cell? ⟨w4.heap.size, 2, none⟩ = some (.slice A4 Q.length c4) := X4.out.cell 2
  have x3 : V4.cell? ⟨w4.heap.size, 3, none⟩ = some (.string M) := X4.out.cell 3
  have x4 : V4.cell? ⟨w4.heap.size, 4, none⟩ = some (.int .i64 P) := X4.out.cell 4
  have x5 : V4.cell? ⟨w4.heap.size, 5, none⟩ = some (.slice D4 E.length e4) := X4.out.cell 5
  clear b4 o4 p4 n4 O3 K3 O23 D23
  go_wp2_with fail
  clear hV4 a0 a1 a2 a3 a4 a5 x0 x1 x2 x3 x4 x5
  refine (eqPacket_same C K _ _ M P _ _ Q E _ O4.out.ints.zero O24.out.ints.zero D4_.out.ints.zero D24.out.ints.zero).mono ?_
  rintro e w5 ⟨rfl, b5⟩
  have O5 := Lib.hid (O4.out.below b5)
  have D5 := Lib.hid (D4_.out.below b5)
  have O35 := Lib.hid (O34.out.below b5)
  have O25 := Lib.hid (O24.out.below b5)
  have D25 := Lib.hid (D24.out.below b5)
  have K5 := Lib.hid (K4.out.kept b5)
  have X5 := Lib.hid (X4.out.kept b5)
  have B5 := Lib.hid (B4.out.trans (b5.mono B4.out.size))
  clear b5 O4 D4_ O34 O24 D24 K4 X4
  go_wp2_with fail
  refine (toIntS_any _ zs w.heap.size _ (hv0.out.below B5.out) B5.out.size (by omega)).mono ?_
  rintro e w6 ⟨y6, rfl, o6, b6⟩
  have O46 := Lib.hid (O5.out.below b6)
  have D46 := Lib.hid (D5.out.below b6)
  have O36 := Lib.hid (O35.out.below b6)
  have O26 := Lib.hid (O25.out.below b6)
  have D26 := Lib.hid (D25.out.below b6)
  have K6 := Lib.hid (K5.out.kept b6)
  have X6 := Lib.hid (X5.out.kept b6)
  have B6 := Lib.hid (B5.out.trans (b6.mono B5.out.size))
  have O6 := Lib.hid o6.ints.zero
  clear b6 o6 O5 D5 O35 O25 D25 K5 X5
  go_wp2_with fail
  refine (eqIntS_any _ _ zs zs _ O36.out.ints.zero O6.out).mono ?_
  rintro e w7 ⟨rfl, n7, rfl⟩
  rw [decide_eq_true rfl]
  go_wp2_with fail
  refine (markIntS_any _ zs _ 1 _ (O36.out.ints.drewN n7) (by omega) (by omega) (by omega)).mono ?_
  rintro e w8 ⟨rfl, _, g8⟩
  have O48 := Lib.hid ((O46.out.drewN n7).keep g8 P43.out)
  have D48 := Lib.hid ((D46.out.drewN n7).keep g8 P43d.out)
  have O28 := Lib.hid ((O26.out.drewN n7).keep g8 P23.out)
  have D28 := Lib.hid ((D26.out.drewN n7).keep g8 P23'.out)
  have K8 := Lib.hid (K6.out.apart g8 N3.out)
  have X8 := Lib.hid (X6.out.apart g8 N34.out)
  have B8 := Lib.hid ((below_drewN B6.out n7).trans (below_own ((O36.out.drewN n7).more hbs2) g8 (show _ ≤ _ from B6.out.size)))
  have hk8 : ¬ (1 + (zs.length : Int) < 0) := by omega
  clear g8 O46 D46 O36 O26 D26 K6 X6 O6
  have a0 : w8.cell? ⟨w2.heap.size, 0, none⟩ = some (.int .i64 C) := K8.out.cell 0
  have a1 : w8.cell? ⟨w2.heap.size, 1, none⟩ = some (.int .i64 K) := K8.out.cell 1
  have a2 : w8.cell? ⟨w2.heap.size, 2, none⟩ = some (.slice A2 Q.length c2) := K8.out.cell 2
  have a3 : w8.cell? ⟨w2.heap.size, 3, none⟩ = some (.string M) := K8.out.cell 3
  have a4 : w8.cell? ⟨w2.heap.size, 4, none⟩ = some (.int .i64 P) := K8.out.cell 4
  have a5 : w8.cell? ⟨w2.heap.size, 5, none⟩ = some (.slice D2 E.length e2) := K8.out.cell 5
  have x0 : w8.cell? ⟨w4.heap.size, 0, none⟩ = some (.int .i64 C) := X8.out.cell 0
  have x1 : w8.cell? ⟨w4.heap.size, 1, none⟩ = some (.int .i64 K) := X8.out.cell 1
  have x2 : w8.cell? ⟨w4.heap.size, 2, none⟩ = some (.slice A4 Q.length c4) := X8.out.cell 2
  have x3 : w8.cell? ⟨w4.heap.size, 3, none⟩ = some (.string M) := X8.out.cell 3
  have x4 : w8.cell? ⟨w4.heap.size, 4, none⟩ = some (.int .i64 P) := X8.out.cell 4
  have x5 : w8.cell? ⟨w4.heap.size, 5, none⟩ = some (.slice D4 E.length e4) := X8.out.cell 5
  go_wp2_with fail
  clear a0 a1 a2 a3 a4 a5 x0 x1 x2 x3 x4 x5
  refine (eqPacket_same C K _ _ M P _ _ Q E _ O48.out.ints.zero O28.out.ints.zero D48.out.ints.zero D28.out.ints.zero).mono ?_
  rintro e w9 ⟨rfl, b9⟩
  have O49 := Lib.hid (O48.out.below b9)
  have D49 := Lib.hid (D48.out.below b9)
  have O29 := Lib.hid (O28.out.below b9)
  have D29 := Lib.hid (D28.out.below b9)
  have K9 := Lib.hid (K8.out.kept b9)
  have X9 := Lib.hid (X8.out.kept b9)
  have B9 := Lib.hid (B8.out.trans (b9.mono B8.out.size))
  clear b9 O48 D48 O28 D28 K8 X8
  have x0 : w9.cell? ⟨w4.heap.size, 0, none⟩ = some (.int .i64 C) := X9.out.cell 0
  have x1 : w9.cell? ⟨w4.heap.size, 1, none⟩ = some (.int .i64 K) := X9.out.cell 1
  have x2 : w9.cell? ⟨w4.heap.size, 2, none⟩ = some (.slice A4 Q.length c4) := X9.out.cell 2
  have x3 : w9.cell? ⟨w4.heap.size, 3, none⟩ = some (.string M) := X9.out.cell 3
  have x4 : w9.cell? ⟨w4.heap.size, 4, none⟩ = some (.int .i64 P) := X9.out.cell 4
  have x5 : w9.cell? ⟨w4.heap.size, 5, none⟩ = some (.slice D4 E.length e4) := X9.out.cell 5
  go_wp2_with fail
  refine (markPacket_any C K _ M P _ Q E _ _ 1 _ O49.out D49.out NA.out NB.out (by omega) (by omega) (by omega) (by omega)).mono ?_
  rintro e w10 ⟨rfl, i10, j10, u10, g10, d10, h10⟩
  have I10 := Lib.hid i10
  have J10 := Lib.hid j10
  have O210 := Lib.hid (O29.out.keep2 g10 h10 P24.out P24d.out)
  have D210 := Lib.hid (D29.out.keep2 g10 h10 Q24.out Q24d.out)
  have K10 := Lib.hid ((K9.out.apart (n := 0) g10 N4.out).apart (n := 0) h10 N4d.out)
  have X10 := Lib.hid ((X9.out.apart (n := 0) g10 N44.out).apart (n := 0) h10 N44d.out)
  have BU := B9.out.trans (below_own (O49.out.more hbs3) g10 B9.out.size)
  have B10 := Lib.hid (BU.trans (below_own (d10.more hbs3) h10 BU.size))
  have hk10 : ¬ (1 + (Q.length : Int) + (E.length : Int) < 0) := by omega
  clear g10 h10 d10 BU i10 j10 O49 D49 O29 D29 K9 X9 x0 x1 x2 x3 x4 x5
  have x0 : w10.cell? ⟨w4.heap.size, 0, none⟩ = some (.int .i64 C) := X10.out.cell 0
  have x1 : w10.cell? ⟨w4.heap.size, 1, none⟩ = some (.int .i64 K) := X10.out.cell 1
  have x2 : w10.cell? ⟨w4.heap.size, 2, none⟩ = some (.slice A4 Q.length c4) := X10.out.cell 2
  have x3 : w10.cell? ⟨w4.heap.size, 3, none⟩ = some (.string M) := X10.out.cell 3
  have x4 : w10.cell? ⟨w4.heap.size, 4, none⟩ = some (.int .i64 P) := X10.out.cell 4
  have x5 : w10.cell? ⟨w4.heap.size, 5, none⟩ = some (.slice D4 E.length e4) := X10.out.cell 5
  go_wp2_with fail
  refine (heldPacket_any C K _ M P _ 1 Q.length E.length _ I10.out.zero J10.out.zero (by omega) (by omega) (by omega) (by omega)).mono ?_
  rintro e w11 ⟨rfl, b11⟩
  have I11 := Lib.hid (I10.out.below b11)
  have J11 := Lib.hid (J10.out.below b11)
  have O211 := Lib.hid (O210.out.below b11)
  have D211 := Lib.hid (D210.out.below b11)
  have K11 := Lib.hid (K10.out.kept b11)
  have X11 := Lib.hid (X10.out.kept b11)
  have B11 := Lib.hid (B10.out.trans (b11.mono B10.out.size))
  clear b11 I10 J10 O210 D210 K10 X10 x0 x1 x2 x3 x4 x5
  go_wp2_with fail
  refine (toIntS_any _ zs w.heap.size _ (hv0.out.below B11.out) B11.out.size (by omega)).mono ?_
  rintro e w12 ⟨y12, rfl, o12, b12⟩
  have I12 := Lib.hid (I11.out.below b12)
  have J12 := Lib.hid (J11.out.below b12)
  have O212 := Lib.hid (O211.out.below b12)
  have D212 := Lib.hid (D211.out.below b12)
  have K12 := Lib.hid (K11.out.kept b12)
  have X12 := Lib.hid (X11.out.kept b12)
  have B12 := Lib.hid (B11.out.trans (b12.mono B11.out.size))
  have O12 := Lib.hid o12.ints.zero
  clear b12 o12 I11 J11 O211 D211 K11 X11
  go_wp2_with fail
  refine (HI.out _ _ O12.out).mono ?_
  rintro e w13 ⟨q13, d13, rfl, o13, p13, _, b13⟩
  obtain ⟨A13, c13, rfl, _, _, _⟩ := o13.form
  obtain ⟨D13, e13, rfl, _, _, _⟩ := p13.form
  obtain ⟨V13, hV13⟩ : ∃ V13, w13.alloc (.cells #[.int .i64 C, .int .i64 K, .slice A13 Q.length c13, .string M, .int .i64 P, .slice D13 E.length e13] 41) = V13 := ⟨_, rfl⟩
  have I13 : Hid (Ints V13 _ (.slice A4 Q.length c4) (marks 1 Q.length)) := Lib.hid (by rw [← hV13]; exact (I12.out.below b13).alloc _)
  have J13 : Hid (Ints V13 _ (.slice D4 E.length e4) (marks (1 + Q.length) E.length)) := Lib.hid (by rw [← hV13]; exact (J12.out.below b13).alloc _)
  have O213 : Hid (Own V13 _ (.slice A2 Q.length c2) Q) := Lib.hid (by rw [← hV13]; exact (O212.out.below b13).alloc _)
  have D213 : Hid (Own V13 _ (.slice D2 E.length e2) E) := Lib.hid (by rw [← hV13]; exact (D212.out.below b13).alloc _)
  have O13 : Hid (Own V13 _ (.slice A13 Q.length c13) Q) := Lib.hid (by rw [← hV13]; exact o13.alloc _)
  have D13_ : Hid (Own V13 _ (.slice D13 E.length e13) E) := Lib.hid (by rw [← hV13]; exact p13.alloc _)
  have K13 : Hid (Blk V13 w2.heap.size 41 #[.int .i64 C, .int .i64 K, .slice A2 Q.length c2, .string M, .int .i64 P, .slice D2 E.length e2]) := Lib.hid (by rw [← hV13]; exact (K12.out.kept b13).alloc _)
  have X13 : Hid (Blk V13 w4.heap.size 41 #[.int .i64 C, .int .i64 K, .slice A4 Q.length c4, .string M, .int .i64 P, .slice D4 E.length e4]) := Lib.hid (by rw [← hV13]; exact (X12.out.kept b13).alloc _)
  have Y13 : Hid (Blk V13 w13.heap.size 41 #[.int .i64 C, .int .i64 K, .slice A13 Q.length c13, .string M, .int .i64 P, .slice D13 E.length e13]) := Lib.hid (by rw [← hV13]; exact Blk.new _ _ _)
  have B13 : Hid (Below w.heap.size w V13) := Lib.hid (by
    rw [← hV13]
    have h := B12.out.trans (b13.mono B12.out.size)
    exact h.alloc h.size _)
  clear b13 o13 p13 I12 J12 O212 D212 K12 X12 O12
  have a0 : V13.cell? ⟨w2.heap.size, 0, none⟩ = some (.int .i64 C) := K13.out.cell 0
  have a1 : V13.cell? ⟨w2.heap.size, 1, none⟩ = some (.int .i64 K) := K13.out.cell 1
  have a2 : V13.cell? ⟨w2.heap.size, 2, none⟩ = some (.slice A2 Q.length c2) := K13.out.cell 2
  have a3 : V13.cell? ⟨w2.heap.size, 3, none⟩ = some (.string M) := K13.out.cell 3
  have a4 : V13.cell? ⟨w2.heap.size, 4, none⟩ = some (.int .i64 P) := K13.out.cell 4
  have a5 : V13.cell? ⟨w2.heap.size, 5, none⟩ = some (.slice D2 E.length e2) := K13.out.cell 5
  have yy0 : V13.cell? ⟨w13.heap.size, 0, none⟩ = some (.int .i64 C) := Y13.out.cell 0
  have yy1 : V13.cell? ⟨w13.heap.size, 1, none⟩ = some (.int .i64 K) := Y13.out.cell 1
  have yy2 : V13.cell? ⟨w13.heap.size, 2, none⟩ = some (.slice A13 Q.length c13) := Y13.out.cell 2
  have yy3 : V13.cell? ⟨w13.heap.size, 3, none⟩ = some (.string M) := Y13.out.cell 3
  have yy4 : V13.cell? ⟨w13.heap.size, 4, none⟩ = some (.int .i64 P) := Y13.out.cell 4
  have yy5 : V13.cell? ⟨w13.heap.size, 5, none⟩ = some (.slice D13 E.length e13) := Y13.out.cell 5
  go_wp2_with fail
  clear hV13 a0 a1 a2 a3 a4 a5 yy0 yy1 yy2 yy3 yy4 yy5
  refine (eqPacket_same C K _ _ M P _ _ Q E _ O13.out.ints.zero O213.out.ints.zero D13_.out.ints.zero D213.out.ints.zero).mono ?_
  rintro e w14 ⟨rfl, b14⟩
  have I14 := Lib.hid (I13.out.below b14)
  have J14 := Lib.hid (J13.out.below b14)
  have X14 := Lib.hid (X13.out.kept b14)
  have B14 := Lib.hid (B13.out.trans (b14.mono B13.out.size))
  clear b14 I13 J13 O213 D213 O13 D13_ K13 X13 Y13
  have x0 : w14.cell? ⟨w4.heap.size, 0, none⟩ = some (.int .i64 C) := X14.out.cell 0
  have x1 : w14.cell? ⟨w4.heap.size, 1, none⟩ = some (.int .i64 K) := X14.out.cell 1
  have x2 : w14.cell? ⟨w4.heap.size, 2, none⟩ = some (.slice A4 Q.length c4) := X14.out.cell 2
  have x3 : w14.cell? ⟨w4.heap.size, 3, none⟩ = some (.string M) := X14.out.cell 3
  have x4 : w14.cell? ⟨w4.heap.size, 4, none⟩ = some (.int .i64 P) := X14.out.cell 4
  have x5 : w14.cell? ⟨w4.heap.size, 5, none⟩ = some (.slice D4 E.length e4) := X14.out.cell 5
  go_wp2_with fail
  refine (heldPacket_any C K _ M P _ 1 Q.length E.length _ I14.out.zero J14.out.zero (by omega) (by omega) (by omega) (by omega)).mono ?_
  rintro e w15 ⟨rfl, b15⟩
  have B15 := Lib.hid (B14.out.trans (b15.mono B14.out.size))
  clear b15
  go_wp2_with fail
  go_ret
  exact ⟨rfl, B15.out⟩
set_option maxRecDepth 100000 in
theorem lifted (os : Os) (started : os.Started) (H : Type) (enc : TypeId × Value → H) :
    ReturnsInHanded {} Tryd.checked os 7 .any (fun w args => (Rows.fnExactPacketFromSpec.pre enc Tryd.prog Tryd.f7 Rows.fnExactPacketFromRow.domain false w args ∧ laidMetH Tryd.prog Rows.fnExactPacketFromRow.laid w) ∧ sizedMet enc Tryd.prog Tryd.f7 (OpenSpec.ofChange Rows.fnExactPacketFromSpec) false w args) (Rows.fnExactPacketFromSpec.post enc Tryd.prog Tryd.f7 false true false false) := by
  refine returnsInHanded_of_change_and (C := Tryd.checked) (X := fun w _ => laidMetH Tryd.prog Rows.fnExactPacketFromRow.laid w) (fun _ _ _ hh h => h.of_heap hh) Tryd.own started (by kernel_rfl) Tryd.func7
    (ChangeSpec.witness_shaped (enc := enc) (C := Tryd.checked) (os := os) (X := fun w _ => laidMetH Tryd.prog Rows.fnExactPacketFromRow.laid w) false (World.laidAll Tryd.prog os Rows.fnExactPacketFromRow.laid) #[.slice none 0 0] 8 (World.laidAll_os _ _ _)
      (World.shaped_of_ZipB (by kernel_rfl) (by kernel_rfl)) (by kernel_rfl) (by kernel_rfl) (by kernel_rfl)
      (by rw [MakeChecks.laidMetH_plain _ _ _ (by kernel_rfl)]; exact laidMet_laidAll _ (by kernel_rfl) (by kernel_rfl))) ?_
  intro W base args ds gs before hval0 hW hcnd _ _ _
  have hval : ∀ (j : Nat) t v, Tryd.f7.params[j]? = some t → args[j]? = some v → Value.okWide Tryd.prog W .any base t v := hval0
  have hW' := hW
  obtain ⟨p, q, hA0, hV, rfl, hfz, hnd⟩ := hW
  have hA : DataW.TrodAll enc Tryd.prog W 0 (fun _ => true) true Tryd.f7.params.toList args.toList ds p := hA0
  rw [Tryd.params7] at hA hval
  obtain ⟨v0, vs0, d0, ds0, p0, q0, hargs, rfl, rfl, h0, r0⟩ := trodAll_cons hA
  obtain ⟨rfl, rfl, rfl⟩ := trodAll_nil r0
  obtain rfl : args = #[v0] := by cases args; simp_all
  obtain ⟨rfl, rfl⟩ := trodVars_none hV
  obtain ⟨a0, len0, cap0, rfl⟩ := okWide_slice Tryd.underlying23 (hval 0 23 v0 rfl rfl)
  have k0 := h0
  have lt0 : ∀ x ∈ p0, x.block < W.heap.size := by obtain ⟨m, hm⟩ := k0; exact DataW.trod_lt m _ _ _ hm
  obtain ⟨z0, w0⟩ : ∃ zs, IsRow .i64 W a0 len0 cap0 zs := by
    obtain ⟨fuel, hf⟩ := h0
    rcases open_ints Tryd.underlying23 Tryd.underlying3 (by kernel_rfl) hf with ⟨hcs, _⟩ | ⟨x, l, c, zs, hcs, _, hl, hm, hz, _, hcell, hwz⟩
    · simp [Value.cells] at hcs
      obtain ⟨rfl, rfl, rfl⟩ := hcs
      exact ⟨[], .inl ⟨rfl, rfl, rfl, rfl⟩⟩
    · simp [Value.cells] at hcs
      obtain ⟨rfl, rfl, rfl⟩ := hcs
      exact ⟨zs, .inr ⟨_, rfl, hl, hm, by simpa using hz, hcell, hwz⟩⟩
  clear hA0 hval0
  refine (walk (.slice a0 len0 cap0) _ W ((Came.of_row w0).1)).mono fun e W' ⟨he, bel⟩ => ?_
  subst he
  exact ⟨_, rfl, _, _, _, [], _, [], hW', trodAll_mk1 (shut_bool Tryd.underlying4 _), (trodAll_cons_mk (Below.trod Tryd.laidOut (by kernel_rfl) (of_decide_eq_true (by kernel_rfl)) k0 bel lt0) trodAll_mk0), rfl, bel.frame _, fun h => by cases h⟩

theorem closed : joinedFacts Tryd.prog 7 Tryd.f7 Rows.fnExactPacketFromSpec Rows.fnExactPacketFromRow = true := by
  unfold joinedFacts
  repeat' (with_reducible refine band ?_ ?_)
  all_goals (with_reducible (first | exact Tryd.laidOut | exact kMaps | exact kStops | exact kKnobs | exact kHeard | exact kEnter | refine eqPlain ?_ | refine eqLift ?_ | refine eqMake ?_ | skip))
  all_goals (as_aux_lemma => kernel_rfl)

/-- The row -/
theorem row_holds : Rows.FnExactPacketFromSaid :=
  OpenClaim.holds_of_wide 7 Tryd.f7 rfl rfl rfl rfl rfl rfl rfl ⟨rfl, rfl, rfl, rfl, rfl⟩ rfl rfl rfl rfl rfl (by as_aux_lemma => kernel_rfl) Tryd.func7 closed
    (of_decide_eq_true (by as_aux_lemma => kernel_rfl)) (by unfold Func.isWrapper; first | (rw [if_pos (by decide +kernel)]; kernel_rfl) | (rw [if_neg (by decide +kernel)]; exact ⟨rfl, rfl⟩))
    (fun os started H enc _ => lifted os started H enc)

set_option maxRecDepth 100000 in
/-- THE STATEMENT -/
theorem proved : Rows.FnExactPacketFromCardSaid :=
  Claim7.holds_tied_plain_at .later [] [.data, .pinned] true (true, "71cb2da78bc50782ad828c61a4547b3a4c8bb6d1fee47442386dd17ce480b237") false row_holds (fun _ h => by cases h) (by as_aux_lemma => kernel_rfl) (fun _ h => by cases h) fnExactPacketFrom_row_tie rfl ⟨rfl, rfl⟩ (by as_aux_lemma => kernel_rfl) rfl
    (fun f fn hf hfn => by
      obtain rfl : f = 7 := Option.some.inj ((show Tryd.prog.funcNamed "loop.example/proxyframes/laws.FnExactPacketFrom" = some 7 by kernel_rfl).symm.trans hf) |>.symm
      obtain rfl : fn = Tryd.f7 := (Option.some.inj (Tryd.func7.symm.trans hfn)).symm
      exact ⟨by kernel_rfl, fun j t ht => by
        rw [Tryd.params7] at ht
        have hm : t ∈ [23] := by simpa using Array.mem_of_getElem? ht
        have hall : ([23].all fun u => !Tryd.prog.wantsStandIn u) = true := by kernel_rfl
        exact (show Tryd.prog.wantsStandIn t = false by simpa using List.all_eq_true.1 hall t hm)⟩)
    (by as_aux_lemma => kernel_rfl)
end Go.Proofs.YtolbkdcnmkmncaaDoor.fnExactPacketFrom

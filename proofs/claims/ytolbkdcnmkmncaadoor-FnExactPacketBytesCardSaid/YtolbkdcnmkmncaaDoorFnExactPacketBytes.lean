/-
  PacketBytes of the program returns what the reference's returns, for all arguments, in memory that it shares with nothing. Conditions: none.
-/
import Derived.Test.YtolbkdcnmkmncaaDoorKitC
import Derived.Test.YtolbkdcnmkmncaaDoorPkLaws3
import Derived.Test.YtolbkdcnmkmncaaDoorPkBytes
namespace Go.Proofs.YtolbkdcnmkmncaaDoor.fnExactPacketBytes
open Go.ChangeShapes Go.WideShapes Go.ChangeAt Go.RowKit

set_option maxRecDepth 100000 in
set_option maxHeartbeats 8000000 in
theorem walk (f k : Int) (q : Value) (nm : ByteArray) (p : Int) (d : Value) (qs ds : List Int) (w : World) (hq : Came .i64 w w.heap.size q qs) (hn : nm.size ≤ maxLen) (hd : Came .i64 w w.heap.size d ds) :
    Calls Tryd.prog 6 #[.agg #[.int .i64 f, .int .i64 k, q, .string nm, .int .i64 p, d]] w fun e w' => e = .returned (.bool true) ∧ Below w.heap.size w w' := by
  have HQ := Lib.hid hq
  have HD := Lib.hid hd
  have HN := Lib.hid hn
  obtain ⟨A, c, rfl, hc, hm, _, _⟩ := hq
  obtain ⟨A9, c9, rfl, hc9, hm9, _, _⟩ := hd
  have K0 := Lib.hid (Blk.new w 47 #[.int .i64 f, .int .i64 k, .slice A qs.length c, .string nm, .int .i64 p, .slice A9 ds.length c9])
  have B0 := Lib.hid ((Below.refl w.heap.size w).alloc (Nat.le_refl _) (.cells #[.int .i64 f, .int .i64 k, .slice A qs.length c, .string nm, .int .i64 p, .slice A9 ds.length c9] 47))
  clear hn
  by_cases hl : (1048576 : Int) < (qs.length : Int) + nm.size + ds.length
  · go_enter Tryd.func6, Tryd.ntmps6
    go_wp2_with fail
    refine (szPacket_not f k _ nm p _ qs ds w.heap.size 1048576 _ (HQ.out.below B0.out) (HD.out.below B0.out) B0.out.size hl (by omega) (by omega) HN.out).mono ?_
    rintro e w1 ⟨rfl, b1⟩
    have B1 := Lib.hid (B0.out.trans (b1.mono B0.out.size))
    clear b1
    go_wp2_with fail
    go_ret
    exact ⟨rfl, B1.out⟩
  have hql : qs.length ≤ 1048576 := by omega
  have hdl : ds.length ≤ 1048576 := by omega
  have hns : nm.size < 4294967281 := by omega
  have hlen : (pkL f k qs nm p ds).length ≤ 100 := by
    cases h : pkOk f k qs nm p ds
    · rw [pkL_not h]; simp
    · rw [pkL_ok h]
      have := pkB_length h
      omega
  obtain ⟨L, hL⟩ : ∃ L, pkL f k qs nm p ds = L := ⟨_, rfl⟩
  obtain ⟨K, hK⟩ : ∃ K, pkOk f k qs nm p ds = K := ⟨_, rfl⟩
  have impl_ := fun v u W h h2 => impl_PacketBytes_any f k v nm p qs u ds W h h2 hns
  have spec_ := fun v u W h h2 => spec_PacketBytes_any f k v nm p qs u ds W h h2 hns
  rw [hL, hK] at impl_ spec_
  have HI := Lib.hid impl_
  have HS := Lib.hid spec_
  rw [hL] at hlen
  have hl' : (qs.length : Int) + nm.size + ds.length ≤ 1048576 := by omega
  have hsz : ¬ (1048576 - (qs.length : Int) - (nm.size : Int) - (ds.length : Int) < 0) := by omega
  clear hl hL hK impl_ spec_
  go_enter Tryd.func6, Tryd.ntmps6
  go_wp2_with fail
  refine (szPacket_fits f k _ nm p _ qs ds w.heap.size 1048576 _ (HQ.out.below B0.out) (HD.out.below B0.out) B0.out.size hl' (by omega)).mono ?_
  rintro e w1 ⟨rfl, b1⟩
  have K1 := Lib.hid (K0.out.kept b1)
  have B1 := Lib.hid (B0.out.trans (b1.mono B0.out.size))
  have a0 : w1.cell? ⟨w.heap.size, 0, none⟩ = some (.int .i64 f) := K1.out.cell 0
  have a1 : w1.cell? ⟨w.heap.size, 1, none⟩ = some (.int .i64 k) := K1.out.cell 1
  have a2 : w1.cell? ⟨w.heap.size, 2, none⟩ = some (.slice A qs.length c) := K1.out.cell 2
  have a3 : w1.cell? ⟨w.heap.size, 3, none⟩ = some (.string nm) := K1.out.cell 3
  have a4 : w1.cell? ⟨w.heap.size, 4, none⟩ = some (.int .i64 p) := K1.out.cell 4
  have a5 : w1.cell? ⟨w.heap.size, 5, none⟩ = some (.slice A9 ds.length c9) := K1.out.cell 5
  clear b1 K0
  go_wp2_with fail
  refine (toPacket_any f k _ nm p _ qs ds w.heap.size _ (HQ.out.below B1.out) (HD.out.below B1.out) B1.out.size hql hdl).mono ?_
  rintro e w2 ⟨q2, d2, rfl, o2, p2, _, _, b2⟩
  have K2 := Lib.hid (K1.out.kept b2)
  have B2 := Lib.hid (B1.out.trans (b2.mono B1.out.size))
  have O2 := Lib.hid o2.ints.zero
  have D2 := Lib.hid p2.ints.zero
  clear b2 K1 a0 a1 a2 a3 a4 a5 o2 p2
  go_wp2_with fail
  refine (HS.out _ _ _ O2.out D2.out).mono ?_
  rintro e w3 ⟨s3, rfl, o3, b3⟩
  have K3 := Lib.hid (K2.out.kept b3)
  have O3 := Lib.hid o3
  have B3 := Lib.hid (B2.out.trans (b3.mono B2.out.size))
  have a0 : w3.cell? ⟨w.heap.size, 0, none⟩ = some (.int .i64 f) := K3.out.cell 0
  have a1 : w3.cell? ⟨w.heap.size, 1, none⟩ = some (.int .i64 k) := K3.out.cell 1
  have a2 : w3.cell? ⟨w.heap.size, 2, none⟩ = some (.slice A qs.length c) := K3.out.cell 2
  have a3 : w3.cell? ⟨w.heap.size, 3, none⟩ = some (.string nm) := K3.out.cell 3
  have a4 : w3.cell? ⟨w.heap.size, 4, none⟩ = some (.int .i64 p) := K3.out.cell 4
  have a5 : w3.cell? ⟨w.heap.size, 5, none⟩ = some (.slice A9 ds.length c9) := K3.out.cell 5
  clear b3 o3 K2 O2 D2
  go_wp2_with fail
  refine (toPacket_any f k _ nm p _ qs ds w.heap.size _ (HQ.out.below B3.out) (HD.out.below B3.out) B3.out.size hql hdl).mono ?_
  rintro e w4 ⟨q4, d4, rfl, o4, p4, n4, n4', b4⟩
  have N1 := Lib.hid n4
  have N2 := Lib.hid n4'
  have P34 := Lib.hid (O3.out.ahead o4)
  have P34' := Lib.hid (O3.out.ahead p4)
  obtain ⟨A4, c4, rfl, _, _, _⟩ := o4.form
  obtain ⟨D4, e4, rfl, _, _, _⟩ := p4.form
  obtain ⟨V4, hV4⟩ : ∃ V4, w4.alloc (.cells #[.int .i64 f, .int .i64 k, .slice A4 qs.length c4, .string nm, .int .i64 p, .slice D4 ds.length e4] 41) = V4 := ⟨_, rfl⟩
  have K4 : Hid (Blk V4 w.heap.size 47 #[.int .i64 f, .int .i64 k, .slice A qs.length c, .string nm, .int .i64 p, .slice A9 ds.length c9]) := Lib.hid (by rw [← hV4]; exact (K3.out.kept b4).alloc _)
  have X4 : Hid (Blk V4 w4.heap.size 41 #[.int .i64 f, .int .i64 k, .slice A4 qs.length c4, .string nm, .int .i64 p, .slice D4 ds.length e4]) := Lib.hid (by rw [← hV4]; exact Blk.new _ _ _)
  have O4 : Hid (Own V4 w3.heap.size (.slice A4 qs.length c4) qs) := Lib.hid (by rw [← hV4]; exact o4.alloc _)
  have D4_ : Hid (Own V4 w3.heap.size (.slice D4 ds.length e4) ds) := Lib.hid (by rw [← hV4]; exact p4.alloc _)
  have O34 : Hid (Own V4 _ s3 L) := Lib.hid (by rw [← hV4]; exact (O3.out.below b4).alloc _)
  have hs3 := B3.out.size
  have hlt3 := K3.out.lt
  have hlt4 : w.heap.size < V4.heap.size := K4.out.lt
  have B4 : Hid (Below w.heap.size w V4) := Lib.hid (by rw [← hV4]; exact (B3.out.trans (b4.mono hs3)).alloc (B3.out.trans (b4.mono hs3)).size _)
  have x0 : V4.cell? ⟨w4.heap.size, 0, none⟩ = some (.int .i64 f) := X4.out.cell 0
  have x1 : V4.cell? ⟨w4.heap.size, 1, none⟩ = some (.int .i64 k) := X4.out.cell 1
  have x2 : V4.cell? ⟨w4.heap.size, 2, none⟩ = some (.slice A4 qs.length c4) := X4.out.cell 2
  have x3 : V4.cell? ⟨w4.heap.size, 3, none⟩ = some (.string nm) := X4.out.cell 3
  have x4 : V4.cell? ⟨w4.heap.size, 4, none⟩ = some (.int .i64 p) := X4.out.cell 4
  have x5 : V4.cell? ⟨w4.heap.size, 5, none⟩ = some (.slice D4 ds.length e4) := X4.out.cell 5
  clear b4 K3 a0 a1 a2 a3 a4 a5 o4 p4 O3 n4 n4'
  go_wp2_with fail
  clear hV4
  refine (HI.out _ _ _ O4.out.ints.zero D4_.out.ints.zero).mono ?_
  rintro e w5 ⟨g5, rfl, o5, b5⟩
  have K5 := Lib.hid (K4.out.kept b5)
  have X5 := Lib.hid (X4.out.kept b5)
  have O5 := Lib.hid o5
  have O45 := Lib.hid (O4.out.below b5)
  have D45 := Lib.hid (D4_.out.below b5)
  have O35 := Lib.hid (O34.out.below b5)
  have P35 := Lib.hid (O34.out.ahead o5)
  have P54 := Lib.hid (O4.out.past o5)
  have P54' := Lib.hid (D4_.out.past o5)
  have B5 := Lib.hid (B4.out.trans (b5.mono B4.out.size))
  clear b5 o5 K4 X4 O4 O34 D4_ x0 x1 x2 x3 x4 x5
  go_wp2_with fail
  refine (eqIntS_any _ _ L L _ O5.out.ints.zero O35.out.ints.zero).mono ?_
  rintro e w6 ⟨rfl, n6, rfl⟩
  rw [decide_eq_true rfl]
  obtain ⟨V, hV⟩ : ∃ V, w5.drewN n6 = V := ⟨_, rfl⟩
  have KV : Hid (Blk V w.heap.size 47 #[.int .i64 f, .int .i64 k, .slice A qs.length c, .string nm, .int .i64 p, .slice A9 ds.length c9]) := Lib.hid (by rw [← hV]; exact K5.out)
  have XV : Hid (Blk V w4.heap.size 41 #[.int .i64 f, .int .i64 k, .slice A4 qs.length c4, .string nm, .int .i64 p, .slice D4 ds.length e4]) := Lib.hid (by rw [← hV]; exact X5.out)
  have O5V : Hid (Own V _ g5 L) := Lib.hid (by rw [← hV]; exact O5.out.drewN n6)
  have O4V : Hid (Own V _ _ qs) := Lib.hid (by rw [← hV]; exact O45.out.drewN n6)
  have D4V : Hid (Own V _ _ ds) := Lib.hid (by rw [← hV]; exact D45.out.drewN n6)
  have O3V : Hid (Own V _ s3 L) := Lib.hid (by rw [← hV]; exact O35.out.drewN n6)
  have BV : Hid (Below w.heap.size w V) := Lib.hid (by rw [← hV]; exact below_drewN B5.out n6)
  have CV : Hid (∀ W, Below V.heap.size V W → W.cell? ⟨w.heap.size, 0, none⟩ = some (.int .i64 f) ∧ W.cell? ⟨w.heap.size, 1, none⟩ = some (.int .i64 k) ∧ W.cell? ⟨w.heap.size, 2, none⟩ = some (.slice A qs.length c) ∧ W.cell? ⟨w.heap.size, 3, none⟩ = some (.string nm) ∧ W.cell? ⟨w.heap.size, 4, none⟩ = some (.int .i64 p) ∧ W.cell? ⟨w.heap.size, 5, none⟩ = some (.slice A9 ds.length c9) ∧ W.cell? ⟨w4.heap.size, 0, none⟩ = some (.int .i64 f) ∧ W.cell? ⟨w4.heap.size, 1, none⟩ = some (.int .i64 k) ∧ W.cell? ⟨w4.heap.size, 2, none⟩ = some (.slice A4 qs.length c4) ∧ W.cell? ⟨w4.heap.size, 3, none⟩ = some (.string nm) ∧ W.cell? ⟨w4.heap.size, 4, none⟩ = some (.int .i64 p) ∧ W.cell? ⟨w4.heap.size, 5, none⟩ = some (.slice D4 ds.length e4) ∧ Below V.heap.size V W) := Lib.hid (fun W hb => ⟨(KV.out.kept hb).cell 0, (KV.out.kept hb).cell 1, (KV.out.kept hb).cell 2, (KV.out.kept hb).cell 3, (KV.out.kept hb).cell 4, (KV.out.kept hb).cell 5, (XV.out.kept hb).cell 0, (XV.out.kept hb).cell 1, (XV.out.kept hb).cell 2, (XV.out.kept hb).cell 3, (XV.out.kept hb).cell 4, (XV.out.kept hb).cell 5, hb⟩)
  rw [hV]
  clear hV K5 X5 O5 O45 D45 O35 B5
  go_wp2_with fail
  go_region_held3 (fun W => W.cell? ⟨w.heap.size, 0, none⟩ = some (.int .i64 f) ∧ W.cell? ⟨w.heap.size, 1, none⟩ = some (.int .i64 k) ∧ W.cell? ⟨w.heap.size, 2, none⟩ = some (.slice A qs.length c) ∧ W.cell? ⟨w.heap.size, 3, none⟩ = some (.string nm) ∧ W.cell? ⟨w.heap.size, 4, none⟩ = some (.int .i64 p) ∧ W.cell? ⟨w.heap.size, 5, none⟩ = some (.slice A9 ds.length c9) ∧ W.cell? ⟨w4.heap.size, 0, none⟩ = some (.int .i64 f) ∧ W.cell? ⟨w4.heap.size, 1, none⟩ = some (.int .i64 k) ∧ W.cell? ⟨w4.heap.size, 2, none⟩ = some (.slice A4 qs.length c4) ∧ W.cell? ⟨w4.heap.size, 3, none⟩ = some (.string nm) ∧ W.cell? ⟨w4.heap.size, 4, none⟩ = some (.int .i64 p) ∧ W.cell? ⟨w4.heap.size, 5, none⟩ = some (.slice D4 ds.length e4) ∧ Below V.heap.size V W) (first | exact CV.out _ (Below.refl _ _).drew | exact CV.out _ ((Below.refl _ V).drew.trans b7) | exact CV.out _ (((Below.refl _ V).drew.trans b7).trans (b8.mono b7.size)))
    (first
      | (go_at_call 32; refine (toPacket_any f k _ nm p _ qs ds w.heap.size _ (HQ.out.below BV.out.drew) (HD.out.below BV.out.drew) BV.out.drew.size hql hdl).mono ?_; rintro e w7 ⟨q7, d7, rfl, o7, p7, _, _, b7⟩; obtain ⟨A7, c7, rfl, _, _, _⟩ := o7.form; obtain ⟨D7, e7, rfl, _, _, _⟩ := p7.form)
      | (go_at_call 34; refine (eqPacket_same f k _ _ nm p _ _ qs ds _ (O4V.out.ints.zero.drew.below b7) o7.ints.zero (D4V.out.ints.zero.drew.below b7) p7.ints.zero).mono ?_; rintro e w8 ⟨rfl, b8⟩))
  all_goals
    have BV8 := Lib.hid (((Below.refl _ V).drew.trans b7).trans (b8.mono b7.size))
    clear b7 b8 o7 p7
    obtain ⟨_, _, _, _, _, _, x0, x1, x2, x3, x4, x5, _⟩ := CV.out _ BV8.out
    have O58 := Lib.hid (O5V.out.below BV8.out)
    have O48 := Lib.hid (O4V.out.below BV8.out)
    have D48 := Lib.hid (D4V.out.below BV8.out)
    have O38 := Lib.hid (O3V.out.below BV8.out)
    have K8 := Lib.hid (KV.out.kept BV8.out)
    have B8 := Lib.hid (BV.out.trans (BV8.out.mono BV.out.size))
    clear O5V O4V O3V D4V KV XV CV BV8 BV
    go_wp2_with fail
    refine (markPacket_any f k _ nm p _ qs ds _ _ 1 _ O48.out D48.out N1.out N2.out (by omega) (by omega) (by omega) (by omega)).mono ?_
    rintro e w9 ⟨rfl, _, _, u9, g9, d9, h9⟩
    have O59 := Lib.hid (O58.out.keep2 g9 h9 P54.out P54'.out)
    have O39 := Lib.hid (O38.out.keep2 g9 h9 P34.out P34'.out)
    have KU : Blk u9 w.heap.size 47 #[.int .i64 f, .int .i64 k, .slice A qs.length c, .string nm, .int .i64 p, .slice A9 ds.length c9] := (Own.older (n := 0) O48.out g9 hlt3 K8.out.lt).trans K8.out
    have K9 : Hid (Blk w9 w.heap.size 47 #[.int .i64 f, .int .i64 k, .slice A qs.length c, .string nm, .int .i64 p, .slice A9 ds.length c9]) := Lib.hid ((Own.older (n := 0) d9 h9 hlt3 KU.lt).trans KU)
    have BU := B8.out.trans (below_own (O48.out.more hs3) g9 B8.out.size)
    have B9 := Lib.hid (BU.trans (below_own (d9.more hs3) h9 BU.size))
    have hk9 : ¬ (1 + (qs.length : Int) + (ds.length : Int) < 0) := by omega
    clear g9 h9 d9 KU BU O58 O38 K8 O48 D48 x0 x1 x2 x3 x4 x5
    go_wp2_with fail
    refine (eqIntS_any _ _ L L _ O59.out.ints.zero O39.out.ints.zero).mono ?_
    rintro e w10 ⟨rfl, n10, rfl⟩
    rw [decide_eq_true rfl]
    go_wp2_with fail
    refine (markIntS_any _ L _ 1 _ (O59.out.ints.drewN n10) (by omega) (by omega) (by omega)).mono ?_
    rintro e w11 ⟨rfl, i11, g11⟩
    have O311 := Lib.hid ((O39.out.drewN n10).keep g11 P35.out)
    have K11 : Hid (Blk w11 w.heap.size 47 #[.int .i64 f, .int .i64 k, .slice A qs.length c, .string nm, .int .i64 p, .slice A9 ds.length c9]) := Lib.hid ((O59.out.older g11 hlt4 K9.out.lt).trans K9.out)
    have I11 := Lib.hid i11
    have B11 := Lib.hid ((below_drewN B9.out n10).trans (below_own ((O59.out.drewN n10).more (Nat.le_of_lt hlt4)) g11 (show _ ≤ _ from B9.out.size)))
    have hk11 : ¬ (1 + (L.length : Int) < 0) := by omega
    clear g11 i11 O39 O59 K9
    go_wp2_with fail
    refine (heldIntS_any _ 1 L.length _ I11.out.zero (by omega) (by omega) (by omega)).mono ?_
    rintro e w12 ⟨rfl, rfl⟩
    have a0 : w11.cell? ⟨w.heap.size, 0, none⟩ = some (.int .i64 f) := K11.out.cell 0
    have a1 : w11.cell? ⟨w.heap.size, 1, none⟩ = some (.int .i64 k) := K11.out.cell 1
    have a2 : w11.cell? ⟨w.heap.size, 2, none⟩ = some (.slice A qs.length c) := K11.out.cell 2
    have a3 : w11.cell? ⟨w.heap.size, 3, none⟩ = some (.string nm) := K11.out.cell 3
    have a4 : w11.cell? ⟨w.heap.size, 4, none⟩ = some (.int .i64 p) := K11.out.cell 4
    have a5 : w11.cell? ⟨w.heap.size, 5, none⟩ = some (.slice A9 ds.length c9) := K11.out.cell 5
    go_wp2_with fail
    refine (toPacket_any f k _ nm p _ qs ds w.heap.size _ (HQ.out.below B11.out) (HD.out.below B11.out) B11.out.size hql hdl).mono ?_
    rintro e w13 ⟨q13, d13, rfl, o13, p13, _, _, b13⟩
    have I13 := Lib.hid (I11.out.below b13)
    have O313 := Lib.hid (O311.out.below b13)
    have O13 := Lib.hid o13.ints.zero
    have D13 := Lib.hid p13.ints.zero
    have B13 := Lib.hid (B11.out.trans (b13.mono B11.out.size))
    clear b13 o13 p13 I11 O311 K11 a0 a1 a2 a3 a4 a5
    go_wp2_with fail
    refine (HI.out _ _ _ O13.out D13.out).mono ?_
    rintro e w14 ⟨g14, rfl, o14, b14⟩
    have I14 := Lib.hid (I13.out.below b14)
    have O314 := Lib.hid (O313.out.below b14)
    have O14 := Lib.hid o14
    have B14 := Lib.hid (B13.out.trans (b14.mono B13.out.size))
    clear b14 o14 I13 O313 O13 D13
    go_wp2_with fail
    refine (eqIntS_any _ _ L L _ O14.out.ints.zero O314.out.ints.zero).mono ?_
    rintro e w15 ⟨rfl, n15, rfl⟩
    rw [decide_eq_true rfl]
    go_wp2_with fail
    refine (heldIntS_any _ 1 L.length _ (I14.out.drewN n15).zero (by omega) (by omega) (by omega)).mono ?_
    rintro e w16 ⟨rfl, rfl⟩
    go_wp2_with fail
    go_ret
    exact ⟨rfl, below_drewN B14.out _⟩
set_option maxRecDepth 100000 in
theorem lifted (os : Os) (started : os.Started) (H : Type) (enc : TypeId × Value → H) :
    ReturnsInHanded {} Tryd.checked os 6 .any (fun w args => (Rows.fnExactPacketBytesSpec.pre enc Tryd.prog Tryd.f6 Rows.fnExactPacketBytesRow.domain false w args ∧ laidMetH Tryd.prog Rows.fnExactPacketBytesRow.laid w) ∧ sizedMet enc Tryd.prog Tryd.f6 (OpenSpec.ofChange Rows.fnExactPacketBytesSpec) false w args) (Rows.fnExactPacketBytesSpec.post enc Tryd.prog Tryd.f6 false true false false) := by
  refine returnsInHanded_of_change_and (C := Tryd.checked) (X := fun w _ => laidMetH Tryd.prog Rows.fnExactPacketBytesRow.laid w) (fun _ _ _ hh h => h.of_heap hh) Tryd.own started (by kernel_rfl) Tryd.func6
    (ChangeSpec.witness_shaped (enc := enc) (C := Tryd.checked) (os := os) (X := fun w _ => laidMetH Tryd.prog Rows.fnExactPacketBytesRow.laid w) false (World.laidAll Tryd.prog os Rows.fnExactPacketBytesRow.laid) #[.agg #[.int .i64 0, .int .i64 0, .slice none 0 0, .string .empty, .int .i64 0, .slice none 0 0]] 8 (World.laidAll_os _ _ _)
      (World.shaped_of_ZipB (by kernel_rfl) (by kernel_rfl)) (by kernel_rfl) (by kernel_rfl) (by kernel_rfl)
      (by rw [MakeChecks.laidMetH_plain _ _ _ (by kernel_rfl)]; exact laidMet_laidAll _ (by kernel_rfl) (by kernel_rfl))) ?_
  intro W base args ds gs before hval0 hW hcnd _ _ _
  have hval : ∀ (j : Nat) t v, Tryd.f6.params[j]? = some t → args[j]? = some v → Value.okWide Tryd.prog W .any base t v := hval0
  have hW' := hW
  obtain ⟨p, q, hA0, hV, rfl, hfz, hnd⟩ := hW
  have hA : DataW.TrodAll enc Tryd.prog W 0 (fun _ => true) true Tryd.f6.params.toList args.toList ds p := hA0
  rw [Tryd.params6] at hA hval
  obtain ⟨v0, vs0, d0, ds0, p0, q0, hargs, rfl, rfl, h0, r0⟩ := trodAll_cons hA
  obtain ⟨rfl, rfl, rfl⟩ := trodAll_nil r0
  obtain rfl : args = #[v0] := by cases args; simp_all
  obtain ⟨rfl, rfl⟩ := trodVars_none hV
  have k0 := h0
  have lt0 : ∀ x ∈ p0, x.block < W.heap.size := by obtain ⟨m, hm⟩ := k0; exact DataW.trod_lt m _ _ _ hm
  obtain ⟨ac0, ak0, aq0, am0, ap0, ad0, as0, at0, rfl, ha0, hb0, hc0⟩ := packet_of (hval 0 47 v0 rfl rfl) h0
  clear hA0 hval0
  refine (walk ac0 ak0 aq0 am0 ap0 ad0 as0 at0 W (ha0) (hb0) (hc0)).mono fun e W' ⟨he, bel⟩ => ?_
  subst he
  exact ⟨_, rfl, _, _, _, [], _, [], hW', trodAll_mk1 (shut_bool Tryd.underlying4 _), (trodAll_cons_mk (Below.trod Tryd.laidOut (by kernel_rfl) (of_decide_eq_true (by kernel_rfl)) k0 bel lt0) trodAll_mk0), rfl, bel.frame _, fun h => by cases h⟩

theorem closed : joinedFacts Tryd.prog 6 Tryd.f6 Rows.fnExactPacketBytesSpec Rows.fnExactPacketBytesRow = true := by
  unfold joinedFacts
  repeat' (with_reducible refine band ?_ ?_)
  all_goals (with_reducible (first | exact Tryd.laidOut | exact kMaps | exact kStops | exact kKnobs | exact kHeard | exact kEnter | refine eqPlain ?_ | refine eqLift ?_ | refine eqMake ?_ | skip))
  all_goals (as_aux_lemma => kernel_rfl)

/-- The row -/
theorem row_holds : Rows.FnExactPacketBytesSaid :=
  OpenClaim.holds_of_wide 6 Tryd.f6 rfl rfl rfl rfl rfl rfl rfl ⟨rfl, rfl, rfl, rfl, rfl⟩ rfl rfl rfl rfl rfl (by as_aux_lemma => kernel_rfl) Tryd.func6 closed
    (of_decide_eq_true (by as_aux_lemma => kernel_rfl)) (by unfold Func.isWrapper; first | (rw [if_pos (by decide +kernel)]; kernel_rfl) | (rw [if_neg (by decide +kernel)]; exact ⟨rfl, rfl⟩))
    (fun os started H enc _ => lifted os started H enc)

set_option maxRecDepth 100000 in
/-- THE STATEMENT -/
theorem proved : Rows.FnExactPacketBytesCardSaid :=
  Claim7.holds_tied_plain_at .later [] [.data, .pinned] true (true, "71cb2da78bc50782ad828c61a4547b3a4c8bb6d1fee47442386dd17ce480b237") false row_holds (fun _ h => by cases h) (by as_aux_lemma => kernel_rfl) (fun _ h => by cases h) fnExactPacketBytes_row_tie rfl ⟨rfl, rfl⟩ (by as_aux_lemma => kernel_rfl) rfl
    (fun f fn hf hfn => by
      obtain rfl : f = 6 := Option.some.inj ((show Tryd.prog.funcNamed "loop.example/proxyframes/laws.FnExactPacketBytes" = some 6 by kernel_rfl).symm.trans hf) |>.symm
      obtain rfl : fn = Tryd.f6 := (Option.some.inj (Tryd.func6.symm.trans hfn)).symm
      exact ⟨by kernel_rfl, fun j t ht => by
        rw [Tryd.params6] at ht
        have hm : t ∈ [47] := by simpa using Array.mem_of_getElem? ht
        have hall : ([47].all fun u => !Tryd.prog.wantsStandIn u) = true := by kernel_rfl
        exact (show Tryd.prog.wantsStandIn t = false by simpa using List.all_eq_true.1 hall t hm)⟩)
    (by as_aux_lemma => kernel_rfl)
end Go.Proofs.YtolbkdcnmkmncaaDoor.fnExactPacketBytes

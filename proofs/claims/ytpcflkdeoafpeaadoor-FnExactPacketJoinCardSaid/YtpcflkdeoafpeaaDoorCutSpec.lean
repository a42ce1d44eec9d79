/-
  PacketCut of the reference where it fails. Conditions: the quad and the data read as lists of integers.
-/
import Derived.Test.YtpcflkdeoafpeaaDoorPkts
import Derived.Test.YtpcflkdeoafpeaaDoorPkCopy
namespace Go.Proofs.YtpcflkdeoafpeaaDoor
open Go.RowKit

set_option maxRecDepth 100000 in
set_option maxHeartbeats 4000000 in
theorem spec_PacketCut_not (k : Int) (q : Value) (nm : ByteArray) (p : Int) (qs : List Int) (d : Value) (ds : List Int) (s : Int) (w : World) (hq : Ints w 0 q qs) (hd : Ints w 0 d ds) (hn : nm.size < 4294967281) (hno : cutOk k qs nm p ds s = false) :
    Calls Tryd.prog 19 #[.agg #[.int .i64 k, q, .string nm, .int .i64 p], d, .int .i64 s] w fun e w' => GaveK w (cutR k qs nm p ds s) (cutOk k qs nm p ds s) e w' := by
  have HQ := Lib.hid hq
  have HD := Lib.hid hd
  have E := Lib.hid hno
  obtain ⟨A, c, rfl, hc, hm, _⟩ := hq.open_
  obtain ⟨A9, c9, rfl, hc9, hm9, _⟩ := hd.open_
  obtain ⟨V, hV⟩ : ∃ V, (w.alloc (.cells #[.int .i64 k, .slice A qs.length c, .string nm, .int .i64 p] 30)).alloc (.cells #[] 32) = V := ⟨_, rfl⟩
  have K : Hid (Blk V w.heap.size 30 #[.int .i64 k, .slice A qs.length c, .string nm, .int .i64 p]) := Lib.hid (by rw [← hV]; exact (Blk.new_ rfl).alloc _)
  have B : Hid (Below w.heap.size w V) := Lib.hid (by rw [← hV]; exact ((Below.refl _ _).alloc (Nat.le_refl _) _).alloc (by simp) _)
  have I : Hid (Ints V 0 (.slice A qs.length c) qs) := Lib.hid (by rw [← hV]; exact (HQ.out.alloc _).alloc _)
  have D : Hid (Ints V 0 (.slice A9 ds.length c9) ds) := Lib.hid (by rw [← hV]; exact (HD.out.alloc _).alloc _)
  have LK : Hid (OwnK V w.heap.size (.slice (some ⟨w.heap.size + 1, 0, none⟩) 0 0) []) := Lib.hid (by rw [← hV]; exact litK0 (by simp) (by simp))
  have a0 : V.cell? ⟨w.heap.size, 0, none⟩ = some (.int .i64 k) := K.out.cell 0
  have a1 : V.cell? ⟨w.heap.size, 1, none⟩ = some (.slice A qs.length c) := K.out.cell 1
  have a2 : V.cell? ⟨w.heap.size, 2, none⟩ = some (.string nm) := K.out.cell 2
  have a3 : V.cell? ⟨w.heap.size, 3, none⟩ = some (.int .i64 p) := K.out.cell 3
  clear hq hd
  cases h1 : adOk k qs nm p
  · clear hno
    go_enter Tryd.func19, Tryd.ntmps19
    go_wp2_with (go_at_call 32; refine (spec_AddressValid_any k _ nm p qs _ I.out hn).mono ?_; rintro e w1 ⟨rfl, b1⟩; rw [h1])
    have B1 := B.out.trans (b1.mono B.out.size)
    go_ret2
    exact ⟨_, [], by rw [E.out]; rfl, by rw [cutR_not E.out]; rfl, (LK.out.below b1), RowsK.nil_ _ _, ApartK.nil_, B1⟩
  cases h2 : validL ds
  · clear hno
    go_enter Tryd.func19, Tryd.ntmps19
    go_wp2_with (first | (go_at_call 32; refine (spec_AddressValid_any k _ nm p qs _ I.out hn).mono ?_; rintro e w1 ⟨rfl, b1⟩; rw [h1]) | (go_at_call 33; refine (spec_BytesValid_any _ ds _ (D.out.below b1)).mono ?_; rintro e w' ⟨rfl, rfl⟩; rw [h2]))
    have B1 := B.out.trans (b1.mono B.out.size)
    go_ret2
    exact ⟨_, [], by rw [E.out]; rfl, by rw [cutR_not E.out]; rfl, (LK.out.below b1), RowsK.nil_ _ _, ApartK.nil_, B1⟩
  cases h3 : inR s 1 40
  · clear hno
    go_enter Tryd.func19, Tryd.ntmps19
    go_wp2_with (first | (go_at_call 32; refine (spec_AddressValid_any k _ nm p qs _ I.out hn).mono ?_; rintro e w1 ⟨rfl, b1⟩; rw [h1]) | (go_at_call 33; refine (spec_BytesValid_any _ ds _ (D.out.below b1)).mono ?_; rintro e w' ⟨rfl, rfl⟩; rw [h2]) | (go_at_call 34; refine (l6In_any _ _ _ _).mono ?_; rintro e w' ⟨rfl, rfl⟩; rw [h3]))
    have B1 := B.out.trans (b1.mono B.out.size)
    go_ret2
    exact ⟨_, [], by rw [E.out]; rfl, by rw [cutR_not E.out]; rfl, (LK.out.below b1), RowsK.nil_ _ _, ApartK.nil_, B1⟩
  rw [cutOk, h1, h2, h3] at hno
  cases hno

set_option maxRecDepth 100000 in
set_option maxHeartbeats 4000000 in
theorem spec_PacketCut_one (k : Int) (q : Value) (nm : ByteArray) (p : Int) (qs : List Int) (d : Value) (ds : List Int) (n : Nat) (w : World) (hq : Ints w 0 q qs) (hd : Ints w 0 d ds) (hn : nm.size < 4294967281) (h1 : adOk k qs nm p = true) (h2 : validL ds = true) (h3 : inR (n : Int) 1 40 = true) (hle : ds.length ≤ n) :
    Calls Tryd.prog 19 #[.agg #[.int .i64 k, q, .string nm, .int .i64 p], d, .int .i64 (n : Int)] w fun e w' => GaveK w (cutR k qs nm p ds n) (cutOk k qs nm p ds n) e w' := by
  have HQ := Lib.hid hq
  have HD := Lib.hid hd
  have E : Hid (cutOk k qs nm p ds (n : Int) = true) := Lib.hid (by rw [cutOk, h1, h2, h3]; rfl)
  have EL : Hid (cutR k qs nm p ds (n : Int) = [(0, k, qs, nm, p, ds)]) := Lib.hid (by rw [cutR_ok E.out, cutL, if_pos (by simpa using hle)])
  have hl120 := validL_len h2
  have hql := (adOk_sizes h1).1
  obtain ⟨A, c, rfl, hc, hm, _⟩ := hq.open_
  obtain ⟨A9, c9, rfl, hc9, hm9, _⟩ := hd.open_
  obtain ⟨V, hV⟩ : ∃ V, (w.alloc (.cells #[.int .i64 k, .slice A qs.length c, .string nm, .int .i64 p] 30)).alloc (.cells #[] 32) = V := ⟨_, rfl⟩
  have K : Hid (Blk V w.heap.size 30 #[.int .i64 k, .slice A qs.length c, .string nm, .int .i64 p]) := Lib.hid (by rw [← hV]; exact (Blk.new_ rfl).alloc _)
  have B : Hid (Below w.heap.size w V) := Lib.hid (by rw [← hV]; exact ((Below.refl _ _).alloc (Nat.le_refl _) _).alloc (by simp) _)
  have I : Hid (Ints V 0 (.slice A qs.length c) qs) := Lib.hid (by rw [← hV]; exact (HQ.out.alloc _).alloc _)
  have D : Hid (Ints V 0 (.slice A9 ds.length c9) ds) := Lib.hid (by rw [← hV]; exact (HD.out.alloc _).alloc _)
  have LK : Hid (OwnK V w.heap.size (.slice (some ⟨w.heap.size + 1, 0, none⟩) 0 0) []) := Lib.hid (by rw [← hV]; exact litK0 (by simp) (by simp))
  have a0 : V.cell? ⟨w.heap.size, 0, none⟩ = some (.int .i64 k) := K.out.cell 0
  have a1 : V.cell? ⟨w.heap.size, 1, none⟩ = some (.slice A qs.length c) := K.out.cell 1
  have a2 : V.cell? ⟨w.heap.size, 2, none⟩ = some (.string nm) := K.out.cell 2
  have a3 : V.cell? ⟨w.heap.size, 3, none⟩ = some (.int .i64 p) := K.out.cell 3
  have hle' : (ds.length : Int) ≤ (n : Int) := by omega
  have hq2 : qs.length ≤ 1048576 := by omega
  have HD2 : Hid (([] : List Int).length + ds.length ≤ 1099511627776) := Lib.hid (by simp; omega)
  clear hq hd hle
  go_enter Tryd.func19, Tryd.ntmps19
  go_wp2_with (first | (go_at_call 32; refine (spec_AddressValid_any k _ nm p qs _ I.out hn).mono ?_; rintro e w1 ⟨rfl, b1⟩; rw [h1]; have K1 := K.out.kept b1; have a0 : w1.cell? ⟨w.heap.size, 0, none⟩ = some (.int .i64 k) := K1.cell 0; have a1 : w1.cell? ⟨w.heap.size, 1, none⟩ = some (.slice A qs.length c) := K1.cell 1; have a2 : w1.cell? ⟨w.heap.size, 2, none⟩ = some (.string nm) := K1.cell 2; have a3 : w1.cell? ⟨w.heap.size, 3, none⟩ = some (.int .i64 p) := K1.cell 3; clear K1) | (go_at_call 33; refine (spec_BytesValid_any _ ds _ (D.out.below b1)).mono ?_; rintro e w' ⟨rfl, rfl⟩; rw [h2]) | (go_at_call 34; refine (l6In_any _ _ _ _).mono ?_; rintro e w' ⟨rfl, rfl⟩; rw [h3]))
  have B1 := Lib.hid (B.out.trans (b1.mono B.out.size))
  have I1 := Lib.hid (I.out.below b1)
  have D1 := Lib.hid (D.out.below b1)
  have L1 := Lib.hid (LK.out.below b1)
  clear b1 hV K B I D LK
  refine (l13Copy_any k _ nm p qs _ I1.out hq2).mono ?_
  rintro e w2 ⟨q2, rfl, o2, b2⟩
  obtain ⟨A2, c2, rfl, _, _, _⟩ := o2.form
  have O2 := Lib.hid o2
  have B2 := Lib.hid (B1.out.trans (b2.mono B1.out.size))
  have D2 := Lib.hid (D1.out.below b2)
  have L2 := Lib.hid (L1.out.below b2)
  have z1 := B1.out.size
  clear b2 o2 a0 a1 a2 a3 D1 L1 I1
  go_wp2_with (first
    | (at_builtin; refine wp_ints rfl (.tmp 34) (.tmp 35) rfl rfl rfl (base := w2.heap.size) (zs := []) (ys := ds) (Own.lit_0 rfl (Nat.le_refl _)) (D2.out.alloc _) HD2.out (by simp) ?_; intro v3 w3 o3 b3 g3 k3; rw [List.nil_append] at o3; have O3 := Lib.hid o3; have BB := (Below.refl w2.heap.size w2).alloc (Nat.le_refl _) (.cells #[] 3) |>.trans b3; have O23 := Lib.hid (O2.out.below BB); have L3 := Lib.hid (L2.out.below BB); have AP := Lib.hid (O2.out.ahead o3); have B3 := Lib.hid (B2.out.trans (BB.mono B2.out.size)); obtain ⟨A3, c3, rfl, _, _, _⟩ := o3.form; clear o3 b3 g3 k3 BB)
    | (at_builtin; refine wp_pkts rfl (.tmp 31) (.tmp 38) rfl rfl rfl (base := w.heap.size) (zs := []) (ys := [((0, k, qs, nm, p, ds), .slice A2 qs.length c2, .slice A3 ds.length c3)]) (L3.out.alloc _) (litK1 (base := 0) 0 k _ qs nm p _ ds rfl (Nat.zero_le _)).pkts (one_oneCell _ _ _ rfl rfl) (by simp) (B3.out.alloc B3.out.size _).size ?_; intro v4 w4 o4 b4 g4; rw [List.nil_append] at o4; have O4 := Lib.hid o4; have B4 := Lib.hid ((B3.out.alloc B3.out.size _).trans b4); have R4 := Lib.hid ((RowsK.snoc (zs := []) (RowsK.nil_ _ _) (x := (0, k, qs, nm, p, ds)) (O23.out.more z1) (O3.out.more B2.out.size)).alloc _ |>.keep (L3.out.alloc _) g4); clear o4 b4 g4)
    | fail)
  go_ret2
  exact ⟨_, [((0, k, qs, nm, p, ds), .slice A2 qs.length c2, .slice A3 ds.length c3)], by rw [E.out]; rfl, by rw [EL.out]; rfl, O4.out, R4.out, ApartK.one AP.out, B4.out⟩
end Go.Proofs.YtpcflkdeoafpeaaDoor

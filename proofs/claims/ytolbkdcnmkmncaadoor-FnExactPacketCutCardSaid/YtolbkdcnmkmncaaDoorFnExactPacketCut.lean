/-
  PacketCut of the program returns what the reference's returns, for all arguments, in memory that it shares with nothing. Conditions: none.
-/
import Derived.Test.YtolbkdcnmkmncaaDoorKitC
import Derived.Test.YtolbkdcnmkmncaaDoorCutImpl
import Derived.Test.YtolbkdcnmkmncaaDoorCutMany
import Derived.Test.YtolbkdcnmkmncaaDoorMarkKs
namespace Go.Proofs.YtolbkdcnmkmncaaDoor
open Go.RowKit

theorem RowsK.keepRow {w w' : World} {base : Nat} {zs : List ((Int × Int × List Int × ByteArray × Int × List Int) × Value × Value)} {row : Option Nat} (h : RowsK w base zs) (hg : w.grownBy w' row) (hne : ∀ z ∈ zs, (z.2.1.ownBlock = none ∨ z.2.1.ownBlock ≠ row) ∧ (z.2.2.ownBlock = none ∨ z.2.2.ownBlock ≠ row)) : RowsK w' base zs :=
  fun z hz => ⟨(h z hz).1.keep hg (hne z hz).1, (h z hz).2.keep hg (hne z hz).2⟩
theorem RowsK.drewN {w : World} {base : Nat} {zs : List ((Int × Int × List Int × ByteArray × Int × List Int) × Value × Value)} (h : RowsK w base zs) (n : Nat) : RowsK (w.drewN n) base zs := h
theorem OwnK.drewN {w : World} {base : Nat} {v : Value} {zs : List ((Int × Int × List Int × ByteArray × Int × List Int) × Value × Value)} (h : OwnK w base v zs) (n : Nat) : OwnK (w.drewN n) base v zs := h
theorem RowsK.past {w1 w2 : World} {b0 : Nat} {zs : List ((Int × Int × List Int × ByteArray × Int × List Int) × Value × Value)} {u : Value} {us : List Int} (h : RowsK w2 w1.heap.size zs) (hu : Own w1 b0 u us) : ∀ z ∈ zs, (z.2.1.ownBlock = none ∨ z.2.1.ownBlock ≠ u.ownBlock) ∧ (z.2.2.ownBlock = none ∨ z.2.2.ownBlock ≠ u.ownBlock) :=
  fun z hz => ⟨hu.past (h z hz).1, hu.past (h z hz).2⟩
theorem own_under {w w' : World} {base B sz n : Nat} {e : TypeId} {v : Value} {xs : List Value} (h : w.ownsRow base e sz v n xs) (hlt : ∀ i, v.ownBlock = some i → i < B) (hb : Below B w w') : w'.ownsRow base e sz v n xs := by
  refine ⟨h.1, ?_⟩
  rcases h.2 with h2 | ⟨g, cap, cur, e1, e2, e3, r⟩
  · exact .inl h2
  · refine .inr ⟨g, cap, cur, e1, e2, ?_, r⟩
    subst e1
    exact (hb.block g (hlt g rfl)).trans e3
theorem OwnK.under {w w' : World} {base B : Nat} {v : Value} {zs : List ((Int × Int × List Int × ByteArray × Int × List Int) × Value × Value)} (h : OwnK w base v zs) (hlt : ∀ i, v.ownBlock = some i → i < B) (hb : Below B w w') : OwnK w' base v zs := own_under h hlt hb
theorem RowsK.under {w w' : World} {base B : Nat} {zs : List ((Int × Int × List Int × ByteArray × Int × List Int) × Value × Value)} (h : RowsK w base zs) (hlt : ∀ z ∈ zs, (∀ i, z.2.1.ownBlock = some i → i < B) ∧ (∀ i, z.2.2.ownBlock = some i → i < B)) (hb : Below B w w') : RowsK w' base zs :=
  fun z hz => ⟨own_under (h z hz).1 (hlt z hz).1 hb, own_under (h z hz).2 (hlt z hz).2 hb⟩
theorem nkEs_few : ∀ (es : List (Int × Int × List Int × ByteArray × Int × List Int)) (k : Int), (∀ x ∈ es, x.2.2.1.length ≤ 1000 ∧ x.2.2.2.2.2.length ≤ 1000) → nkEs k es ≤ k + es.length * 2004
  | [], k, _ => by simp [nkEs]
  | x :: r, k, h => by
    have h1 := nkEs_few r (nkE k x) fun y hy => h y (List.mem_cons_of_mem _ hy)
    have h2 := h x (List.mem_cons_self ..)
    rw [nkEs, List.length_cons]
    unfold nkE at h1 ⊢
    omega
theorem cut_marks (k : Int) (qs : List Int) (nm : ByteArray) (p : Int) (ds : List Int) (s : Int) : nkEs 1 (cutR k qs nm p ds s) ≤ 1099511627776 := by
  cases h : cutOk k qs nm p ds s
  · rw [cutR_not h]
    simp [nkEs]
  · obtain ⟨n, h1, h2, rfl⟩ := cut_size h
    have h0 := h
    unfold cutOk at h0
    simp only [Bool.and_eq_true] at h0
    have hL := validL_len h0.1.2
    have hq := (adOk_sizes h0.1.1).1
    have hl : (cutL k qs nm p ds n).length ≤ 121 := by
      rw [cutL_length]
      have := cutM_le (L := ds.length) h1
      omega
    rw [cutR_ok h]
    have hf := nkEs_few (cutL k qs nm p ds n) 1 (fun x hx => by
      rw [cutL_all] at hx
      obtain ⟨i, _, rfl⟩ := List.mem_map.1 hx
      refine ⟨by dsimp only; omega, ?_⟩
      dsimp only
      rw [chunk_length]
      omega)
    show nkEs 1 (cutL k qs nm p ds n) ≤ _
    omega
end Go.Proofs.YtolbkdcnmkmncaaDoor
namespace Go.Proofs.YtolbkdcnmkmncaaDoor.fnExactPacketCut
open Go.ChangeShapes Go.WideShapes Go.ChangeAt Go.RowKit

set_option maxRecDepth 100000 in
set_option maxHeartbeats 16000000 in
theorem walk (k : Int) (q : Value) (nm : ByteArray) (p : Int) (qs : List Int) (v : Value) (zs : List Int) (s : Int) (w : World) (hq : Came .i64 w w.heap.size q qs) (hn : nm.size ≤ maxLen) (hv : Came .i64 w w.heap.size v zs) (_hs : (Lit.int .i64 s).wf = true) :
    Calls Tryd.prog 14 #[.agg #[.int .i64 k, q, .string nm, .int .i64 p], v, .int .i64 s] w fun e w' => e = .returned (.bool true) ∧ Below w.heap.size w w' := by
  have HQ := Lib.hid hq
  have HN := Lib.hid hn
  have HV := Lib.hid hv
  obtain ⟨A, c, rfl, hc, hm, _, _⟩ := hq
  obtain ⟨Av, cv, rfl, hcv, hmv, _, _⟩ := hv
  have K0 := Lib.hid (Blk.new w 45 #[.int .i64 k, .slice A qs.length c, .string nm, .int .i64 p])
  have B0 := Lib.hid ((Below.refl w.heap.size w).alloc (Nat.le_refl _) (.cells #[.int .i64 k, .slice A qs.length c, .string nm, .int .i64 p] 45))
  clear hn
  by_cases hlz : 1048576 < zs.length
  · have hlz' : (1048576 : Int) < (zs.length : Int) := by omega
    clear hlz
    go_enter Tryd.func14, Tryd.ntmps14
    go_wp2_with fail
    go_ret
    exact ⟨rfl, B0.out⟩
  have hlz' : (zs.length : Int) ≤ 1048576 := by omega
  by_cases hl : (1048576 : Int) < (qs.length : Int) + nm.size
  · clear hlz
    go_enter Tryd.func14, Tryd.ntmps14
    go_wp2_with fail
    refine (szAddress_not k _ nm p qs w.heap.size 1048576 _ (HQ.out.below B0.out) B0.out.size hl (by omega) (by omega) HN.out).mono ?_
    rintro e w1 ⟨rfl, b1⟩
    have B1 := Lib.hid (B0.out.trans (b1.mono B0.out.size))
    clear b1
    go_wp2_with fail
    go_ret
    exact ⟨rfl, B1.out⟩
  have hql : qs.length ≤ 1048576 := by omega
  have hns : nm.size < 4294967281 := by omega
  obtain ⟨L, hL⟩ : ∃ L, cutR k qs nm p zs s = L := ⟨_, rfl⟩
  obtain ⟨K, hK⟩ : ∃ K, cutOk k qs nm p zs s = K := ⟨_, rfl⟩
  have impl_ := fun u v W h h' => impl_PacketCut_any k u nm p qs v zs s W h h' hns
  have spec_ := fun u v W h h' => spec_PacketCut_any k u nm p qs v zs s W h h' hns
  have HNB := Lib.hid (cut_marks k qs nm p zs s)
  rw [hL, hK] at impl_ spec_
  rw [hL] at HNB
  have HI := Lib.hid impl_
  have HS := Lib.hid spec_
  have hl' : (qs.length : Int) + nm.size ≤ 1048576 := by omega
  have hsz : ¬ (1048576 - (qs.length : Int) - (nm.size : Int) < 0) := by omega
  clear hl hL hK impl_ spec_ hlz
  go_enter Tryd.func14, Tryd.ntmps14
  go_wp2_with fail
  refine (szAddress_fits k _ nm p qs w.heap.size 1048576 _ (HQ.out.below B0.out) B0.out.size hl' (by omega)).mono ?_
  rintro e w1 ⟨rfl, b1⟩
  have K1 := Lib.hid (K0.out.kept b1)
  have B1 := Lib.hid (B0.out.trans (b1.mono B0.out.size))
  have a0 : w1.cell? ⟨w.heap.size, 0, none⟩ = some (.int .i64 k) := K1.out.cell 0
  have a1 : w1.cell? ⟨w.heap.size, 1, none⟩ = some (.slice A qs.length c) := K1.out.cell 1
  have a2 : w1.cell? ⟨w.heap.size, 2, none⟩ = some (.string nm) := K1.out.cell 2
  have a3 : w1.cell? ⟨w.heap.size, 3, none⟩ = some (.int .i64 p) := K1.out.cell 3
  clear b1 K0 B0
  go_wp2_with fail
  refine (toAddress_any k _ nm p qs w.heap.size _ (HQ.out.below B1.out) B1.out.size hql).mono ?_
  rintro e w2 ⟨q2, rfl, o2, b2⟩
  clear a0 a1 a2 a3
  have KB_1 := Lib.hid (K1.out.kept b2)
  have B_2 := Lib.hid (B1.out.trans (b2.mono B1.out.size))
  clear K1 B1 b2
  have Q2_3 := Lib.hid (o2)
  clear o2
  go_wp2_with fail
  refine (toIntS_any _ zs w.heap.size _ (HV.out.below B_2.out) B_2.out.size (by omega)).mono ?_
  rintro e w3 ⟨u3, rfl, o3, b3⟩
  have KB_4 := Lib.hid (KB_1.out.kept b3)
  have B_5 := Lib.hid (B_2.out.trans (b3.mono B_2.out.size))
  have Q2_6 := Lib.hid (Q2_3.out.below b3)
  clear KB_1 B_2 Q2_3 b3
  have U3_7 := Lib.hid (o3)
  clear o3
  go_wp2_with fail
  refine (HS.out _ _ _ Q2_6.out.ints.zero U3_7.out.ints.zero).mono ?_
  rintro e w4 ⟨v4, zs4, rfl, f4, o4, r4, _, b4⟩
  have F4 := Lib.hid f4
  clear Q2_6 U3_7
  have HP4X : Hid (∀ i, v4.ownBlock = some i → i < w4.heap.size) := Lib.hid fun i hi => (World.ownsRow.lt o4 i hi).2
  have HR4X : Hid (∀ z ∈ zs4, (∀ i, z.2.1.ownBlock = some i → i < w4.heap.size) ∧ (∀ i, z.2.2.ownBlock = some i → i < w4.heap.size)) := Lib.hid fun z hz => ⟨fun i hi => (World.ownsRow.lt (r4 z hz).1 i hi).2, fun i hi => (World.ownsRow.lt (r4 z hz).2 i hi).2⟩
  have KB_8 := Lib.hid (KB_4.out.kept b4)
  have B_9 := Lib.hid (B_5.out.trans (b4.mono B_5.out.size))
  clear KB_4 B_5 b4
  have hw4 : w.heap.size < w4.heap.size := KB_8.out.lt
  have P4_10 := Lib.hid (o4)
  have R4_11 := Lib.hid (r4)
  clear f4 o4 r4
  have a0 : w4.cell? ⟨w.heap.size, 0, none⟩ = some (.int .i64 k) := KB_8.out.cell 0
  have a1 : w4.cell? ⟨w.heap.size, 1, none⟩ = some (.slice A qs.length c) := KB_8.out.cell 1
  have a2 : w4.cell? ⟨w.heap.size, 2, none⟩ = some (.string nm) := KB_8.out.cell 2
  have a3 : w4.cell? ⟨w.heap.size, 3, none⟩ = some (.int .i64 p) := KB_8.out.cell 3
  go_wp2_with fail
  refine (toAddress_any k _ nm p qs w.heap.size _ (HQ.out.below B_9.out) B_9.out.size hql).mono ?_
  rintro e w5 ⟨q5, rfl, o5, b5⟩
  obtain ⟨A5, c5, rfl, _, _, _⟩ := o5.form
  clear a0 a1 a2 a3
  have NR4 := Lib.hid (R4_11.out.ahead o5)
  have NP4 := Lib.hid (apart_symm (o5.offK (P4_10.out.below b5)))
  have hz45 := b5.size
  have HQX : Hid (∀ i, (Value.slice A5 qs.length c5).ownBlock = some i → i < w5.heap.size) := Lib.hid fun i hi => (World.ownsRow.lt o5 i hi).2
  have KB_12 := Lib.hid (KB_8.out.kept b5)
  have B_13 := Lib.hid (B_9.out.trans (b5.mono B_9.out.size))
  have P4_14 := Lib.hid (P4_10.out.below b5)
  have R4_15 := Lib.hid (R4_11.out.below b5)
  clear KB_8 B_9 P4_10 R4_11 b5
  have Q5_16 := Lib.hid (o5)
  clear o5
  obtain ⟨V5, hV5⟩ : ∃ V5, w5.alloc (.cells #[.int .i64 k, .slice A5 qs.length c5, .string nm, .int .i64 p] 26) = V5 := ⟨_, rfl⟩
  have KB_17 : Hid (Blk V5 w.heap.size 45 #[.int .i64 k, .slice A qs.length c, .string nm, .int .i64 p]) := Lib.hid (by rw [← hV5]; exact KB_12.out.alloc _)
  have B_18 : Hid (Below w.heap.size w V5) := Lib.hid (by rw [← hV5]; exact B_13.out.alloc B_13.out.size _)
  have P4_19 : Hid (OwnK V5 _ v4 zs4) := Lib.hid (by rw [← hV5]; exact P4_14.out.alloc _)
  have R4_20 : Hid (RowsK V5 _ zs4) := Lib.hid (by rw [← hV5]; exact R4_15.out.alloc _)
  have Q5_21 : Hid (Own V5 _ (.slice A5 qs.length c5) qs) := Lib.hid (by rw [← hV5]; exact Q5_16.out.alloc _)
  clear KB_12 B_13 P4_14 R4_15 Q5_16
  have X5_22 : Hid (Blk V5 w5.heap.size 26 #[.int .i64 k, .slice A5 qs.length c5, .string nm, .int .i64 p]) := Lib.hid (by rw [← hV5]; exact Blk.new _ _ _)
  have hlt5 : w5.heap.size < V5.heap.size := X5_22.out.lt
  have hv5 := B_18.out.size
  have hk5 : w.heap.size < V5.heap.size := by omega
  go_wp2_with fail
  clear hV5
  refine (toIntS_any _ zs w.heap.size _ (HV.out.below B_18.out) B_18.out.size (by omega)).mono ?_
  rintro e w6 ⟨u6, rfl, o6, b6⟩
  have NR4u := Lib.hid (R4_20.out.ahead o6)
  have NP4u := Lib.hid (apart_symm (o6.offK (P4_19.out.below b6)))
  have NQ5u := Lib.hid (Q5_21.out.ahead o6)
  have NU6q := Lib.hid (Q5_21.out.past o6)
  have NX6 := Lib.hid (o6.newer (g := w5.heap.size) hlt5)
  have NK6 := Lib.hid (o6.newer (g := w.heap.size) hk5)
  have hz56 := b6.size
  have KB_23 := Lib.hid (KB_17.out.kept b6)
  have B_24 := Lib.hid (B_18.out.trans (b6.mono B_18.out.size))
  have P4_25 := Lib.hid (P4_19.out.below b6)
  have R4_26 := Lib.hid (R4_20.out.below b6)
  have Q5_27 := Lib.hid (Q5_21.out.below b6)
  have X5_28 := Lib.hid (X5_22.out.kept b6)
  clear KB_17 B_18 P4_19 R4_20 Q5_21 X5_22 b6
  have Z6_29 : Hid (w6.heap.size ≤ w6.heap.size) := Lib.hid (Nat.le_refl _)
  have U6_30 := Lib.hid (o6)
  clear o6
  have x0 : w6.cell? ⟨w5.heap.size, 0, none⟩ = some (.int .i64 k) := X5_28.out.cell 0
  have x1 : w6.cell? ⟨w5.heap.size, 1, none⟩ = some (.slice A5 qs.length c5) := X5_28.out.cell 1
  have x2 : w6.cell? ⟨w5.heap.size, 2, none⟩ = some (.string nm) := X5_28.out.cell 2
  have x3 : w6.cell? ⟨w5.heap.size, 3, none⟩ = some (.int .i64 p) := X5_28.out.cell 3
  go_wp2_with fail
  refine (HI.out _ _ _ Q5_27.out.ints.zero U6_30.out.ints.zero).mono ?_
  rintro e w7 ⟨v7, zs7, rfl, f7, o7, r7, ap7, b7⟩
  have F7 := Lib.hid f7
  have AP7 := Lib.hid ap7
  have NR7 := Lib.hid (r7.past Q5_27.out)
  have NR7u := Lib.hid (r7.past U6_30.out)
  have NP7 := Lib.hid (apart_symm ((Q5_27.out.below b7).offK o7))
  have NP7u := Lib.hid (apart_symm ((U6_30.out.below b7).offK o7))
  clear x0 x1 x2 x3
  have KB_31 := Lib.hid (KB_23.out.kept b7)
  have B_32 := Lib.hid (B_24.out.trans (b7.mono B_24.out.size))
  have P4_33 := Lib.hid (P4_25.out.below b7)
  have R4_34 := Lib.hid (R4_26.out.below b7)
  have Q5_35 := Lib.hid (Q5_27.out.below b7)
  have X5_36 := Lib.hid (X5_28.out.kept b7)
  have Z6_37 := Lib.hid (Nat.le_trans Z6_29.out b7.size)
  have U6_38 := Lib.hid (U6_30.out.below b7)
  clear KB_23 B_24 P4_25 R4_26 Q5_27 X5_28 Z6_29 U6_30 b7
  have P7_39 := Lib.hid (o7)
  have R7_40 := Lib.hid (r7)
  clear f7 o7 r7 ap7
  go_wp2_with fail
  refine (eqPacketS_same _ _ zs7 zs4 _ P7_39.out.pkts.zero P4_33.out.pkts.zero R7_40.out.read R4_34.out.read (F7.out.trans F4.out.symm)).mono ?_
  rintro e w8 ⟨rfl, b8⟩
  have KB_41 := Lib.hid (KB_31.out.kept b8)
  have B_42 := Lib.hid (B_32.out.trans (b8.mono B_32.out.size))
  have P4_43 := Lib.hid (P4_33.out.below b8)
  have R4_44 := Lib.hid (R4_34.out.below b8)
  have Q5_45 := Lib.hid (Q5_35.out.below b8)
  have X5_46 := Lib.hid (X5_36.out.kept b8)
  have Z6_47 := Lib.hid (Nat.le_trans Z6_37.out b8.size)
  have U6_48 := Lib.hid (U6_38.out.below b8)
  have P7_49 := Lib.hid (P7_39.out.below b8)
  have R7_50 := Lib.hid (R7_40.out.below b8)
  clear KB_31 B_32 P4_33 R4_34 Q5_35 X5_36 Z6_37 U6_38 P7_39 R7_40 b8
  have CV : Hid (∀ W, Below w8.heap.size w8 W → W.cell? ⟨w5.heap.size, 0, none⟩ = some (.int .i64 k) ∧ W.cell? ⟨w5.heap.size, 1, none⟩ = some (.slice A5 qs.length c5) ∧ W.cell? ⟨w5.heap.size, 2, none⟩ = some (.string nm) ∧ W.cell? ⟨w5.heap.size, 3, none⟩ = some (.int .i64 p) ∧ W.cell? ⟨w.heap.size, 0, none⟩ = some (.int .i64 k) ∧ W.cell? ⟨w.heap.size, 1, none⟩ = some (.slice A qs.length c) ∧ W.cell? ⟨w.heap.size, 2, none⟩ = some (.string nm) ∧ W.cell? ⟨w.heap.size, 3, none⟩ = some (.int .i64 p) ∧ Below w8.heap.size w8 W) := Lib.hid (fun W hb => ⟨(X5_46.out.kept hb).cell 0, (X5_46.out.kept hb).cell 1, (X5_46.out.kept hb).cell 2, (X5_46.out.kept hb).cell 3, (KB_41.out.kept hb).cell 0, (KB_41.out.kept hb).cell 1, (KB_41.out.kept hb).cell 2, (KB_41.out.kept hb).cell 3, hb⟩)
  go_wp2_with fail
  go_region_held3 (fun W => W.cell? ⟨w5.heap.size, 0, none⟩ = some (.int .i64 k) ∧ W.cell? ⟨w5.heap.size, 1, none⟩ = some (.slice A5 qs.length c5) ∧ W.cell? ⟨w5.heap.size, 2, none⟩ = some (.string nm) ∧ W.cell? ⟨w5.heap.size, 3, none⟩ = some (.int .i64 p) ∧ W.cell? ⟨w.heap.size, 0, none⟩ = some (.int .i64 k) ∧ W.cell? ⟨w.heap.size, 1, none⟩ = some (.slice A qs.length c) ∧ W.cell? ⟨w.heap.size, 2, none⟩ = some (.string nm) ∧ W.cell? ⟨w.heap.size, 3, none⟩ = some (.int .i64 p) ∧ Below w8.heap.size w8 W)
    (first | with_reducible exact CV.out _ BW10.out | with_reducible exact CV.out _ BW9.out | with_reducible exact CV.out _ (Below.refl _ w8).drew)
    (first | (go_at_call 49; refine (toAddress_any k _ nm p qs w.heap.size _ (HQ.out.below B_42.out.drew) B_42.out.size hql).mono ?_; rintro e w9 ⟨q9, rfl, o9, b9⟩; obtain ⟨A9, c9, rfl, _, _, _⟩ := o9.form; have O9 := Lib.hid o9; have BW9 : Hid (Below w8.heap.size w8 w9) := Lib.hid ((Below.refl _ w8).drew.trans b9); clear o9 b9) | (go_at_call 51; refine (eqAddress_same k _ _ nm p qs _ (Q5_45.out.ints.zero.below BW9.out) O9.out.ints.zero).mono ?_; rintro e w10 ⟨rfl, b10⟩; have BW10 : Hid (Below w8.heap.size w8 w10) := Lib.hid (BW9.out.trans (b10.mono BW9.out.size)); clear b10) | fail)
  all_goals
    rename_i hS
    have bw := hS.2.2.2.2.2.2.2.2
    clear hS CV
    have KB_51 := Lib.hid (KB_41.out.kept bw)
    have B_52 := Lib.hid (B_42.out.trans (bw.mono B_42.out.size))
    have P4_53 := Lib.hid (P4_43.out.below bw)
    have R4_54 := Lib.hid (R4_44.out.below bw)
    have Q5_55 := Lib.hid (Q5_45.out.below bw)
    have X5_56 := Lib.hid (X5_46.out.kept bw)
    have Z6_57 := Lib.hid (Nat.le_trans Z6_47.out bw.size)
    have U6_58 := Lib.hid (U6_48.out.below bw)
    have P7_59 := Lib.hid (P7_49.out.below bw)
    have R7_60 := Lib.hid (R7_50.out.below bw)
    clear KB_41 B_42 P4_43 R4_44 Q5_45 X5_46 Z6_47 U6_48 P7_49 R7_50 bw
    go_wp2_with fail
    refine (toIntS_any _ zs w.heap.size _ (HV.out.below B_52.out) B_52.out.size (by omega)).mono ?_
    rintro e w11 ⟨u11, rfl, o11, b11⟩
    have KB_61 := Lib.hid (KB_51.out.kept b11)
    have B_62 := Lib.hid (B_52.out.trans (b11.mono B_52.out.size))
    have P4_63 := Lib.hid (P4_53.out.below b11)
    have R4_64 := Lib.hid (R4_54.out.below b11)
    have Q5_65 := Lib.hid (Q5_55.out.below b11)
    have X5_66 := Lib.hid (X5_56.out.kept b11)
    have Z6_67 := Lib.hid (Nat.le_trans Z6_57.out b11.size)
    have U6_68 := Lib.hid (U6_58.out.below b11)
    have P7_69 := Lib.hid (P7_59.out.below b11)
    have R7_70 := Lib.hid (R7_60.out.below b11)
    clear KB_51 B_52 P4_53 R4_54 Q5_55 X5_56 Z6_57 U6_58 P7_59 R7_60 b11
    have U11_71 := Lib.hid (o11)
    clear o11
    go_wp2_with fail
    refine (eqIntS_any _ _ zs zs _ U6_68.out.ints.zero U11_71.out.ints.zero).mono ?_
    rintro e w12 ⟨rfl, n12, rfl⟩
    rw [decide_eq_true rfl]
    clear U11_71
    have KB_72 := Lib.hid (KB_61.out.drewN n12)
    have B_73 := Lib.hid (below_drewN B_62.out n12)
    have P4_74 := Lib.hid (P4_63.out.drewN n12)
    have R4_75 := Lib.hid (R4_64.out.drewN n12)
    have Q5_76 := Lib.hid (Q5_65.out.drewN n12)
    have X5_77 := Lib.hid (X5_66.out.drewN n12)
    have Z6_78 := Lib.hid (Z6_67.out)
    have U6_79 := Lib.hid (U6_68.out.drewN n12)
    have P7_80 := Lib.hid (P7_69.out.drewN n12)
    have R7_81 := Lib.hid (R7_70.out.drewN n12)
    clear KB_61 B_62 P4_63 R4_64 Q5_65 X5_66 Z6_67 U6_68 P7_69 R7_70
    have x0 : (w11.drewN n12).cell? ⟨w5.heap.size, 0, none⟩ = some (.int .i64 k) := X5_77.out.cell 0
    have x1 : (w11.drewN n12).cell? ⟨w5.heap.size, 1, none⟩ = some (.slice A5 qs.length c5) := X5_77.out.cell 1
    have x2 : (w11.drewN n12).cell? ⟨w5.heap.size, 2, none⟩ = some (.string nm) := X5_77.out.cell 2
    have x3 : (w11.drewN n12).cell? ⟨w5.heap.size, 3, none⟩ = some (.int .i64 p) := X5_77.out.cell 3
    go_wp2_with fail
    refine (markAddress_any k _ nm p qs _ 1 _ Q5_76.out.ints (by omega) (by omega) (by omega)).mono ?_
    rintro e w13 ⟨rfl, i13, g13⟩
    clear x0 x1 x2 x3 i13
    have NXq : some w5.heap.size ≠ (Value.slice A5 qs.length c5).ownBlock := fun h => absurd (HQX.out _ h.symm) (Nat.lt_irrefl _)
    have NKq : some w.heap.size ≠ (Value.slice A5 qs.length c5).ownBlock := Ne.symm (Q5_76.out.newer hw4)
    have HLq : ∀ i, (Value.slice A5 qs.length c5).ownBlock = some i → w.heap.size ≤ i := fun i hi => Nat.le_trans (Nat.le_of_lt hw4) (World.ownsRow.lt Q5_76.out i hi).1
    clear Q5_76
    have KB_82 := Lib.hid (KB_72.out.grown g13 (NKq))
    have B_83 := Lib.hid (B_73.out.grown g13 B_73.out.size (HLq))
    have P4_84 := Lib.hid (P4_74.out.keep g13 (NP4.out))
    have R4_85 := Lib.hid (R4_75.out.keepRow g13 (NR4.out))
    have X5_86 := Lib.hid (X5_77.out.grown g13 (NXq))
    have Z6_87 := Lib.hid (Nat.le_trans Z6_78.out g13.size)
    have U6_88 := Lib.hid (U6_79.out.keep g13 (NU6q.out))
    have P7_89 := Lib.hid (P7_80.out.keep g13 (NP7.out))
    have R7_90 := Lib.hid (R7_81.out.keepRow g13 (NR7.out))
    clear KB_72 B_73 P4_74 R4_75 X5_77 Z6_78 U6_79 P7_80 R7_81 g13
    have hm13 : (0 : Int) ≤ 1 + (qs.length : Int) ∧ 1 + (qs.length : Int) ≤ 1099511627776 := by omega
    go_wp2_with fail
    refine (markIntS_any _ zs _ _ _ U6_88.out.ints hm13.1 hm13.2 (by omega)).mono ?_
    rintro e w14 ⟨rfl, i14, g14⟩
    clear i14
    have HLu : ∀ i, u6.ownBlock = some i → w.heap.size ≤ i := fun i hi => Nat.le_trans hv5 (World.ownsRow.lt U6_88.out i hi).1
    clear U6_88 X5_86
    have KB_91 := Lib.hid (KB_82.out.grown g14 (Ne.symm NK6.out))
    have B_92 := Lib.hid (B_83.out.grown g14 B_83.out.size (HLu))
    have P4_93 := Lib.hid (P4_84.out.keep g14 (NP4u.out))
    have R4_94 := Lib.hid (R4_85.out.keepRow g14 (NR4u.out))
    have Z6_95 := Lib.hid (Nat.le_trans Z6_87.out g14.size)
    have P7_96 := Lib.hid (P7_89.out.keep g14 (NP7u.out))
    have R7_97 := Lib.hid (R7_90.out.keepRow g14 (NR7u.out))
    clear KB_82 B_83 P4_84 R4_85 Z6_87 P7_89 R7_90 g14
    have hk14 : ¬ (1 + (qs.length : Int) + (zs.length : Int) < 0) := by omega
    go_wp2_with fail
    refine (eqPacketS_same _ _ zs7 zs4 _ P7_96.out.pkts.zero P4_93.out.pkts.zero R7_97.out.read R4_94.out.read (F7.out.trans F4.out.symm)).mono ?_
    rintro e w15 ⟨rfl, b15⟩
    have KB_98 := Lib.hid (KB_91.out.kept b15)
    have B_99 := Lib.hid (B_92.out.trans (b15.mono B_92.out.size))
    have P4_100 := Lib.hid (P4_93.out.below b15)
    have R4_101 := Lib.hid (R4_94.out.below b15)
    have Z6_102 := Lib.hid (Nat.le_trans Z6_95.out b15.size)
    have P7_103 := Lib.hid (P7_96.out.below b15)
    have R7_104 := Lib.hid (R7_97.out.below b15)
    clear KB_91 B_92 P4_93 R4_94 Z6_95 P7_96 R7_97 b15
    have hnk : nkEs 1 (zs7.map Prod.fst) ≤ 1099511627776 := by rw [F7.out]; exact HNB.out
    obtain ⟨NK, hNK⟩ : ∃ NK, nkEs 1 (zs7.map Prod.fst) = NK := ⟨_, rfl⟩
    have HNK := Lib.hid hNK
    have hNK1 : 1 ≤ NK := by rw [← hNK]; exact nkEs_le _ _
    go_wp2_with fail
    refine (markPacketS_any _ zs7 _ 1 _ P7_103.out R7_104.out AP7.out Z6_102.out (by omega) hnk).mono ?_
    rintro e w16 ⟨rfl, ys, fy, oy, iy, b16⟩
    rw [hNK]
    clear P7_103 R7_104
    have FY := Lib.hid fy
    have h46 : w4.heap.size ≤ w6.heap.size := by omega
    have hk6 : w.heap.size < w6.heap.size := by omega
    have KB_105 := Lib.hid (KB_98.out.below b16 hk6)
    have B_106 := Lib.hid (B_99.out.trans (b16.mono (Nat.le_of_lt hk6)))
    have P4_107 := Lib.hid (P4_100.out.under (fun i hi => Nat.lt_of_lt_of_le (HP4X.out i hi) h46) b16)
    have R4_108 := Lib.hid (R4_101.out.under (fun z hz => ⟨fun i hi => Nat.lt_of_lt_of_le ((HR4X.out z hz).1 i hi) h46, fun i hi => Nat.lt_of_lt_of_le ((HR4X.out z hz).2 i hi) h46⟩) b16)
    have Z6_109 := Lib.hid (Nat.le_trans Z6_102.out b16.size)
    clear KB_98 B_99 P4_100 R4_101 Z6_102
    have PY_110 := Lib.hid (oy)
    have IY_111 := Lib.hid (iy)
    clear fy oy iy b16
    go_wp2_with fail
    refine (heldPacketS_any _ ys (zs7.map Prod.fst) 1 _ PY_110.out.pkts.zero IY_111.out.read FY.out (by omega) hnk).mono ?_
    rintro e w17 ⟨rfl, b17⟩
    rw [hNK]
    have KB_112 := Lib.hid (KB_105.out.kept b17)
    have B_113 := Lib.hid (B_106.out.trans (b17.mono B_106.out.size))
    have P4_114 := Lib.hid (P4_107.out.below b17)
    have R4_115 := Lib.hid (R4_108.out.below b17)
    have Z6_116 := Lib.hid (Nat.le_trans Z6_109.out b17.size)
    have PY_117 := Lib.hid (PY_110.out.below b17)
    have IY_118 := Lib.hid (IY_111.out.below b17)
    clear KB_105 B_106 P4_107 R4_108 Z6_109 PY_110 IY_111 b17
    have a0 : w17.cell? ⟨w.heap.size, 0, none⟩ = some (.int .i64 k) := KB_112.out.cell 0
    have a1 : w17.cell? ⟨w.heap.size, 1, none⟩ = some (.slice A qs.length c) := KB_112.out.cell 1
    have a2 : w17.cell? ⟨w.heap.size, 2, none⟩ = some (.string nm) := KB_112.out.cell 2
    have a3 : w17.cell? ⟨w.heap.size, 3, none⟩ = some (.int .i64 p) := KB_112.out.cell 3
    go_wp2_with fail
    refine (toAddress_any k _ nm p qs w.heap.size _ (HQ.out.below B_113.out) B_113.out.size hql).mono ?_
    rintro e w18 ⟨q18, rfl, o18, b18⟩
    clear a0 a1 a2 a3
    have KB_119 := Lib.hid (KB_112.out.kept b18)
    have B_120 := Lib.hid (B_113.out.trans (b18.mono B_113.out.size))
    have P4_121 := Lib.hid (P4_114.out.below b18)
    have R4_122 := Lib.hid (R4_115.out.below b18)
    have Z6_123 := Lib.hid (Nat.le_trans Z6_116.out b18.size)
    have PY_124 := Lib.hid (PY_117.out.below b18)
    have IY_125 := Lib.hid (IY_118.out.below b18)
    clear KB_112 B_113 P4_114 R4_115 Z6_116 PY_117 IY_118 b18
    have Q18_126 := Lib.hid (o18)
    clear o18
    go_wp2_with fail
    refine (toIntS_any _ zs w.heap.size _ (HV.out.below B_120.out) B_120.out.size (by omega)).mono ?_
    rintro e w19 ⟨u19, rfl, o19, b19⟩
    have KB_127 := Lib.hid (KB_119.out.kept b19)
    have B_128 := Lib.hid (B_120.out.trans (b19.mono B_120.out.size))
    have P4_129 := Lib.hid (P4_121.out.below b19)
    have R4_130 := Lib.hid (R4_122.out.below b19)
    have Z6_131 := Lib.hid (Nat.le_trans Z6_123.out b19.size)
    have PY_132 := Lib.hid (PY_124.out.below b19)
    have IY_133 := Lib.hid (IY_125.out.below b19)
    have Q18_134 := Lib.hid (Q18_126.out.below b19)
    clear KB_119 B_120 P4_121 R4_122 Z6_123 PY_124 IY_125 Q18_126 b19
    have U19_135 := Lib.hid (o19)
    clear o19
    go_wp2_with fail
    refine (HI.out _ _ _ Q18_134.out.ints.zero U19_135.out.ints.zero).mono ?_
    rintro e w20 ⟨v20, zs20, rfl, f20, o20, r20, _, b20⟩
    have F20 := Lib.hid f20
    clear Q18_134 U19_135
    have KB_136 := Lib.hid (KB_127.out.kept b20)
    have B_137 := Lib.hid (B_128.out.trans (b20.mono B_128.out.size))
    have P4_138 := Lib.hid (P4_129.out.below b20)
    have R4_139 := Lib.hid (R4_130.out.below b20)
    have Z6_140 := Lib.hid (Nat.le_trans Z6_131.out b20.size)
    have PY_141 := Lib.hid (PY_132.out.below b20)
    have IY_142 := Lib.hid (IY_133.out.below b20)
    clear KB_127 B_128 P4_129 R4_130 Z6_131 PY_132 IY_133 b20
    have P20_143 := Lib.hid (o20)
    have R20_144 := Lib.hid (r20)
    clear f20 o20 r20
    go_wp2_with fail
    refine (eqPacketS_same _ _ zs20 zs4 _ P20_143.out.pkts.zero P4_138.out.pkts.zero R20_144.out.read R4_139.out.read (F20.out.trans F4.out.symm)).mono ?_
    rintro e w21 ⟨rfl, b21⟩
    have KB_145 := Lib.hid (KB_136.out.kept b21)
    have B_146 := Lib.hid (B_137.out.trans (b21.mono B_137.out.size))
    have P4_147 := Lib.hid (P4_138.out.below b21)
    have R4_148 := Lib.hid (R4_139.out.below b21)
    have Z6_149 := Lib.hid (Nat.le_trans Z6_140.out b21.size)
    have PY_150 := Lib.hid (PY_141.out.below b21)
    have IY_151 := Lib.hid (IY_142.out.below b21)
    have P20_152 := Lib.hid (P20_143.out.below b21)
    have R20_153 := Lib.hid (R20_144.out.below b21)
    clear KB_136 B_137 P4_138 R4_139 Z6_140 PY_141 IY_142 P20_143 R20_144 b21
    go_wp2_with fail
    refine (heldPacketS_any _ ys (zs7.map Prod.fst) 1 _ PY_150.out.pkts.zero IY_151.out.read FY.out (by omega) hnk).mono ?_
    rintro e w22 ⟨rfl, b22⟩
    rw [hNK]
    have KB_154 := Lib.hid (KB_145.out.kept b22)
    have B_155 := Lib.hid (B_146.out.trans (b22.mono B_146.out.size))
    have P4_156 := Lib.hid (P4_147.out.below b22)
    have R4_157 := Lib.hid (R4_148.out.below b22)
    have Z6_158 := Lib.hid (Nat.le_trans Z6_149.out b22.size)
    have PY_159 := Lib.hid (PY_150.out.below b22)
    have IY_160 := Lib.hid (IY_151.out.below b22)
    have P20_161 := Lib.hid (P20_152.out.below b22)
    have R20_162 := Lib.hid (R20_153.out.below b22)
    clear KB_145 B_146 P4_147 R4_148 Z6_149 PY_150 IY_151 P20_152 R20_153 b22
    go_wp2_with fail
    go_ret
    exact ⟨rfl, B_155.out⟩
set_option maxRecDepth 100000 in
theorem lifted (os : Os) (started : os.Started) (H : Type) (enc : TypeId × Value → H) :
    ReturnsInHanded {} Tryd.checked os 14 .any (fun w args => (Rows.fnExactPacketCutSpec.pre enc Tryd.prog Tryd.f14 Rows.fnExactPacketCutRow.domain false w args ∧ laidMetH Tryd.prog Rows.fnExactPacketCutRow.laid w) ∧ sizedMet enc Tryd.prog Tryd.f14 (OpenSpec.ofChange Rows.fnExactPacketCutSpec) false w args) (Rows.fnExactPacketCutSpec.post enc Tryd.prog Tryd.f14 false true false false) := by
  refine returnsInHanded_of_change_and (C := Tryd.checked) (X := fun w _ => laidMetH Tryd.prog Rows.fnExactPacketCutRow.laid w) (fun _ _ _ hh h => h.of_heap hh) Tryd.own started (by kernel_rfl) Tryd.func14
    (ChangeSpec.witness_shaped (enc := enc) (C := Tryd.checked) (os := os) (X := fun w _ => laidMetH Tryd.prog Rows.fnExactPacketCutRow.laid w) false (World.laidAll Tryd.prog os Rows.fnExactPacketCutRow.laid) #[.agg #[.int .i64 0, .slice none 0 0, .string .empty, .int .i64 0], .slice none 0 0, .int .i64 0] 8 (World.laidAll_os _ _ _)
      (World.shaped_of_ZipB (by kernel_rfl) (by kernel_rfl)) (by kernel_rfl) (by kernel_rfl) (by kernel_rfl)
      (by rw [MakeChecks.laidMetH_plain _ _ _ (by kernel_rfl)]; exact laidMet_laidAll _ (by kernel_rfl) (by kernel_rfl))) ?_
  intro W base args ds gs before hval0 hW hcnd _ _ _
  have hval : ∀ (j : Nat) t v, Tryd.f14.params[j]? = some t → args[j]? = some v → Value.okWide Tryd.prog W .any base t v := hval0
  have hW' := hW
  obtain ⟨p, q, hA0, hV, rfl, hfz, hnd⟩ := hW
  have hA : DataW.TrodAll enc Tryd.prog W 0 (fun _ => true) true Tryd.f14.params.toList args.toList ds p := hA0
  rw [Tryd.params14] at hA hval
  obtain ⟨v0, vs0, d0, ds0, p0, q0, hargs, rfl, rfl, h0, r0⟩ := trodAll_cons hA
  obtain ⟨v1, vs1, d1, ds1, p1, q1, rfl, rfl, rfl, h1, r1⟩ := trodAll_cons r0
  obtain ⟨v2, vs2, d2, ds2, p2, q2, rfl, rfl, rfl, h2, r2⟩ := trodAll_cons r1
  obtain ⟨rfl, rfl, rfl⟩ := trodAll_nil r2
  obtain rfl : args = #[v0, v1, v2] := by cases args; simp_all
  obtain ⟨rfl, rfl⟩ := trodVars_none hV
  have k0 := h0
  have lt0 : ∀ x ∈ p0, x.block < W.heap.size := by obtain ⟨m, hm⟩ := k0; exact DataW.trod_lt m _ _ _ hm
  obtain ⟨ak0, aq0, am0, ap0, as0, rfl, ha0, hb0⟩ := ad_of (hval 0 45 v0 rfl rfl) h0
  obtain ⟨a1, len1, cap1, rfl⟩ := okWide_slice Tryd.underlying23 (hval 1 23 v1 rfl rfl)
  have k1 := h1
  have lt1 : ∀ x ∈ p1, x.block < W.heap.size := by obtain ⟨m, hm⟩ := k1; exact DataW.trod_lt m _ _ _ hm
  obtain ⟨z1, w1⟩ : ∃ zs, IsRow .i64 W a1 len1 cap1 zs := by
    obtain ⟨fuel, hf⟩ := h1
    rcases open_ints Tryd.underlying23 Tryd.underlying3 (by kernel_rfl) hf with ⟨hcs, _⟩ | ⟨x, l, c, zs, hcs, _, hl, hm, hz, _, hcell, hwz⟩
    · simp [Value.cells] at hcs
      obtain ⟨rfl, rfl, rfl⟩ := hcs
      exact ⟨[], .inl ⟨rfl, rfl, rfl, rfl⟩⟩
    · simp [Value.cells] at hcs
      obtain ⟨rfl, rfl, rfl⟩ := hcs
      exact ⟨zs, .inr ⟨_, rfl, hl, hm, by simpa using hz, hcell, hwz⟩⟩
  obtain ⟨a2, rfl, rfl, rfl, w2⟩ := open_int Tryd.underlying3 (hval 2 3 v2 rfl rfl) h2
  clear hA0 hval0
  refine (walk ak0 aq0 am0 ap0 as0 (.slice a1 len1 cap1) _ a2 W (ha0) (hb0) ((Came.of_row w1).1) (w2)).mono fun e W' ⟨he, bel⟩ => ?_
  subst he
  exact ⟨_, rfl, _, _, _, [], _, [], hW', trodAll_mk1 (shut_bool Tryd.underlying4 _), (trodAll_cons_mk (Below.trod Tryd.laidOut (by kernel_rfl) (of_decide_eq_true (by kernel_rfl)) k0 bel lt0) (trodAll_cons_mk (Below.trod Tryd.laidOut (by kernel_rfl) (of_decide_eq_true (by kernel_rfl)) k1 bel lt1) (trodAll_cons_mk (shut_int Tryd.underlying3 w2) trodAll_mk0))), rfl, bel.frame _, fun h => by cases h⟩

theorem closed : joinedFacts Tryd.prog 14 Tryd.f14 Rows.fnExactPacketCutSpec Rows.fnExactPacketCutRow = true := by
  unfold joinedFacts
  repeat' (with_reducible refine band ?_ ?_)
  all_goals (with_reducible (first | exact Tryd.laidOut | exact kMaps | exact kStops | exact kKnobs | exact kHeard | exact kEnter | refine eqPlain ?_ | refine eqLift ?_ | refine eqMake ?_ | skip))
  all_goals (as_aux_lemma => kernel_rfl)

/-- The row -/
theorem row_holds : Rows.FnExactPacketCutSaid :=
  OpenClaim.holds_of_wide 14 Tryd.f14 rfl rfl rfl rfl rfl rfl rfl ⟨rfl, rfl, rfl, rfl, rfl⟩ rfl rfl rfl rfl rfl (by as_aux_lemma => kernel_rfl) Tryd.func14 closed
    (of_decide_eq_true (by as_aux_lemma => kernel_rfl)) (by unfold Func.isWrapper; first | (rw [if_pos (by decide +kernel)]; kernel_rfl) | (rw [if_neg (by decide +kernel)]; exact ⟨rfl, rfl⟩))
    (fun os started H enc _ => lifted os started H enc)

set_option maxRecDepth 100000 in
/-- THE STATEMENT -/
theorem proved : Rows.FnExactPacketCutCardSaid :=
  Claim7.holds_tied_plain_at .later [] [.data, .pinned] true (true, "71cb2da78bc50782ad828c61a4547b3a4c8bb6d1fee47442386dd17ce480b237") false row_holds (fun _ h => by cases h) (by as_aux_lemma => kernel_rfl) (fun _ h => by cases h) fnExactPacketCut_row_tie rfl ⟨rfl, rfl⟩ (by as_aux_lemma => kernel_rfl) rfl
    (fun f fn hf hfn => by
      obtain rfl : f = 14 := Option.some.inj ((show Tryd.prog.funcNamed "loop.example/proxyframes/laws.FnExactPacketCut" = some 14 by kernel_rfl).symm.trans hf) |>.symm
      obtain rfl : fn = Tryd.f14 := (Option.some.inj (Tryd.func14.symm.trans hfn)).symm
      exact ⟨by kernel_rfl, fun j t ht => by
        rw [Tryd.params14] at ht
        have hm : t ∈ [45, 23, 3] := by simpa using Array.mem_of_getElem? ht
        have hall : ([45, 23, 3].all fun u => !Tryd.prog.wantsStandIn u) = true := by kernel_rfl
        exact (show Tryd.prog.wantsStandIn t = false by simpa using List.all_eq_true.1 hall t hm)⟩)
    (by as_aux_lemma => kernel_rfl)
end Go.Proofs.YtolbkdcnmkmncaaDoor.fnExactPacketCut

/-
  PacketBytes of the program and of the reference return the same bytes, in memory of their own, or fail alike. Conditions: the quad and the data read as lists of integers, the name has fewer than 2^32 - 15 bytes.
-/
import Derived.Test.YtolbkdcnmkmncaaDoorPkOk
import Derived.Test.YtolbkdcnmkmncaaDoorCodeBytes
import Derived.Test.YtolbkdcnmkmncaaDoorConcat
namespace Go.Proofs.YtolbkdcnmkmncaaDoor
open Go.RowKit

theorem rows3 {W : World} {a b c : Value} {la lb lc : List Int} {g : Nat} (hg : g = W.heap.size) (ha : Ints W 0 a la) (hb : Ints W 0 b lb) (hc : Ints W 0 c lc) :
    Rows2 (W.alloc (.cells #[a, b, c] 23)) (.slice (some ⟨g, 0, none⟩) 3 3) [la, lb, lc] := by
  subst hg
  refine ⟨[a, b, c], ⟨rfl, some ⟨W.heap.size, 0, none⟩, 3, rfl, Nat.le_refl _, by unfold maxLen; simp, .inr ⟨W.heap.size, 0, rfl, Nat.zero_le _, #[a, b, c], heap_alloc_new W _, fun j u hu => by simpa using hu⟩⟩, ?_⟩
  intro j hj
  match j, hj with
  | 0, _ => exact ⟨a, rfl, ha.alloc _⟩
  | 1, _ => exact ⟨b, rfl, hb.alloc _⟩
  | 2, _ => exact ⟨c, rfl, hc.alloc _⟩
theorem Ints.lit_3 {W : World} {x y z : Int} {g : Nat} (hg : g = W.heap.size) : Ints (W.alloc (.cells #[.int .i64 x, .int .i64 y, .int .i64 z] 3)) 0 (.slice (some ⟨g, 0, none⟩) 3 3) [x, y, z] := Ints.lit_ hg rfl (by omega)
theorem pk_flat (f k : Int) (qs : List Int) (nm : ByteArray) (p : Int) (ds : List Int) : [[0, 0, f], adB k qs nm p, ds].flatten = pkB f k qs nm p ds := by simp [pkB]

/-- Six cells of a block that lies below. -/
theorem six_alloc {w W : World} {B : Nat} {x y z u v t : Value} (h : W.cell? ⟨B, 0, none⟩ = some x ∧ W.cell? ⟨B, 1, none⟩ = some y ∧ W.cell? ⟨B, 2, none⟩ = some z ∧ W.cell? ⟨B, 3, none⟩ = some u ∧ W.cell? ⟨B, 4, none⟩ = some v ∧ W.cell? ⟨B, 5, none⟩ = some t ∧ B < W.heap.size ∧ Below w.heap.size w W) (o : Obj) :
    (W.alloc o).cell? ⟨B, 0, none⟩ = some x ∧ (W.alloc o).cell? ⟨B, 1, none⟩ = some y ∧ (W.alloc o).cell? ⟨B, 2, none⟩ = some z ∧ (W.alloc o).cell? ⟨B, 3, none⟩ = some u ∧ (W.alloc o).cell? ⟨B, 4, none⟩ = some v ∧ (W.alloc o).cell? ⟨B, 5, none⟩ = some t ∧ B < (W.alloc o).heap.size ∧ Below w.heap.size w (W.alloc o) := by
  obtain ⟨h0, h1, h2, h3, h4, h5, h6, h7⟩ := h
  exact ⟨(World.cell?_alloc_lt W o ⟨B, 0, none⟩ h6).trans h0, (World.cell?_alloc_lt W o ⟨B, 1, none⟩ h6).trans h1, (World.cell?_alloc_lt W o ⟨B, 2, none⟩ h6).trans h2, (World.cell?_alloc_lt W o ⟨B, 3, none⟩ h6).trans h3, (World.cell?_alloc_lt W o ⟨B, 4, none⟩ h6).trans h4, (World.cell?_alloc_lt W o ⟨B, 5, none⟩ h6).trans h5, by simp; omega, h7.alloc h7.size o⟩
theorem six_below {w W W' : World} {B : Nat} {x y z u v t : Value} (h : W.cell? ⟨B, 0, none⟩ = some x ∧ W.cell? ⟨B, 1, none⟩ = some y ∧ W.cell? ⟨B, 2, none⟩ = some z ∧ W.cell? ⟨B, 3, none⟩ = some u ∧ W.cell? ⟨B, 4, none⟩ = some v ∧ W.cell? ⟨B, 5, none⟩ = some t ∧ B < W.heap.size ∧ Below w.heap.size w W) (b : Below W.heap.size W W') :
    W'.cell? ⟨B, 0, none⟩ = some x ∧ W'.cell? ⟨B, 1, none⟩ = some y ∧ W'.cell? ⟨B, 2, none⟩ = some z ∧ W'.cell? ⟨B, 3, none⟩ = some u ∧ W'.cell? ⟨B, 4, none⟩ = some v ∧ W'.cell? ⟨B, 5, none⟩ = some t ∧ B < W'.heap.size ∧ Below w.heap.size w W' := by
  obtain ⟨h0, h1, h2, h3, h4, h5, h6, h7⟩ := h
  exact ⟨(b.cell (p := ⟨B, 0, none⟩) h6).trans h0, (b.cell (p := ⟨B, 1, none⟩) h6).trans h1, (b.cell (p := ⟨B, 2, none⟩) h6).trans h2, (b.cell (p := ⟨B, 3, none⟩) h6).trans h3, (b.cell (p := ⟨B, 4, none⟩) h6).trans h4, (b.cell (p := ⟨B, 5, none⟩) h6).trans h5, Nat.lt_of_lt_of_le h6 b.size, h7.trans (b.mono h7.size)⟩

set_option maxRecDepth 100000 in
set_option maxHeartbeats 8000000 in
theorem impl_PacketBytes_any (f k : Int) (q : Value) (nm : ByteArray) (p : Int) (qs : List Int) (d : Value) (ds : List Int) (w : World) (hq : Ints w 0 q qs) (hd : Ints w 0 d ds) (hn : nm.size < 4294967281) :
    Calls Tryd.prog 27 #[.agg #[.int .i64 f, .int .i64 k, q, .string nm, .int .i64 p, d]] w fun e w' => Gave w (pkL f k qs nm p ds) (pkOk f k qs nm p ds) e w' := by
  have HQ := Lib.hid hq
  have HD := Lib.hid hd
  obtain ⟨A, c, rfl, hc, hm, _⟩ := hq.open_
  obtain ⟨A9, c9, rfl, hc9, hm9, _⟩ := hd.open_
  obtain ⟨V, hV⟩ : ∃ V, w.alloc (.cells #[.int .i64 f, .int .i64 k, .slice A qs.length c, .string nm, .int .i64 p, .slice A9 ds.length c9] 41) = V := ⟨_, rfl⟩
  have K : Hid (Blk V w.heap.size 41 #[.int .i64 f, .int .i64 k, .slice A qs.length c, .string nm, .int .i64 p, .slice A9 ds.length c9]) := Lib.hid (by rw [← hV]; exact Blk.new _ _ _)
  have B : Hid (Below w.heap.size w V) := Lib.hid (by rw [← hV]; exact (Below.refl _ _).alloc (Nat.le_refl _) _)
  have I : Hid (Ints V 0 (.slice A qs.length c) qs) := Lib.hid (by rw [← hV]; exact HQ.out.alloc _)
  have D : Hid (Ints V 0 (.slice A9 ds.length c9) ds) := Lib.hid (by rw [← hV]; exact HD.out.alloc _)
  have a0 : V.cell? ⟨w.heap.size, 0, none⟩ = some (.int .i64 f) := K.out.cell 0
  have a1 : V.cell? ⟨w.heap.size, 1, none⟩ = some (.int .i64 k) := K.out.cell 1
  have a2 : V.cell? ⟨w.heap.size, 2, none⟩ = some (.slice A qs.length c) := K.out.cell 2
  have a3 : V.cell? ⟨w.heap.size, 3, none⟩ = some (.string nm) := K.out.cell 3
  have a4 : V.cell? ⟨w.heap.size, 4, none⟩ = some (.int .i64 p) := K.out.cell 4
  have a5 : V.cell? ⟨w.heap.size, 5, none⟩ = some (.slice A9 ds.length c9) := K.out.cell 5
  clear hq hd
  go_enter Tryd.func27, Tryd.ntmps27
  go_wp2_with fail
  clear hV a0 a1 a2 a3 a4 a5
  refine (isPacket_any f k _ nm p qs _ ds _ I.out D.out hn).mono ?_
  rintro e w1 ⟨rfl, b1⟩
  have K1 := Lib.hid (K.out.kept b1)
  have B1 := Lib.hid (B.out.trans (b1.mono B.out.size))
  have I1 := Lib.hid (I.out.below b1)
  have D1 := Lib.hid (D.out.below b1)
  have hs1 := B1.out.size
  clear b1 K B I D
  cases hok : pkOk f k qs nm p ds
  · have HOK := Lib.hid hok
    have E := Lib.hid (pkL_not hok)
    clear hok
    go_wp2_with fail
    go_ret2
    exact ⟨_, by rw [HOK.out]; rfl, by rw [E.out]; exact Own.nil_ _ _, B1.out⟩
  have HOK := Lib.hid hok
  have E := Lib.hid (pkL_ok hok)
  have HA := Lib.hid (pkOk_parts hok).2.1
  have HL : Hid ([[0, 0, f], adB k qs nm p, ds].flatten.length ≤ 1099511627776) := Lib.hid (by rw [pk_flat]; have := pkB_length hok; omega)
  have S0 : Hid (w1.drew.cell? ⟨w.heap.size, 0, none⟩ = some (.int .i64 f) ∧ w1.drew.cell? ⟨w.heap.size, 1, none⟩ = some (.int .i64 k) ∧ w1.drew.cell? ⟨w.heap.size, 2, none⟩ = some (.slice A qs.length c) ∧ w1.drew.cell? ⟨w.heap.size, 3, none⟩ = some (.string nm) ∧ w1.drew.cell? ⟨w.heap.size, 4, none⟩ = some (.int .i64 p) ∧ w1.drew.cell? ⟨w.heap.size, 5, none⟩ = some (.slice A9 ds.length c9) ∧ w.heap.size < w1.drew.heap.size ∧ Below w.heap.size w w1.drew) :=
    Lib.hid ⟨K1.out.cell 0, K1.out.cell 1, K1.out.cell 2, K1.out.cell 3, K1.out.cell 4, K1.out.cell 5, K1.out.lt, B1.out.drew⟩
  clear hok
  go_wp2_with fail
  go_region_held3 (fun W => W.cell? ⟨w.heap.size, 0, none⟩ = some (.int .i64 f) ∧ W.cell? ⟨w.heap.size, 1, none⟩ = some (.int .i64 k) ∧ W.cell? ⟨w.heap.size, 2, none⟩ = some (.slice A qs.length c) ∧ W.cell? ⟨w.heap.size, 3, none⟩ = some (.string nm) ∧ W.cell? ⟨w.heap.size, 4, none⟩ = some (.int .i64 p) ∧ W.cell? ⟨w.heap.size, 5, none⟩ = some (.slice A9 ds.length c9) ∧ w.heap.size < W.heap.size ∧ Below w.heap.size w W)
    (first | with_reducible exact S0.out | with_reducible exact six_below ‹_› b4 | with_reducible exact six_below ‹_› b2 | exact six_alloc ‹_› _)
    (first
      | (go_at_call 71; refine (Concat_any _ [[0, 0, f], adB k qs nm p, ds] _ (rows3 ?_ ?_ ?_ ?_) HL.out).mono ?_; (first | with_reducible rfl | simp only [World.size_alloc]); (repeat (first | (with_reducible exact o2.ints.zero) | (with_reducible exact D1.out) | (with_reducible refine Ints.lit_3 ?_; (first | with_reducible rfl | simp only [World.size_alloc])) | (with_reducible refine Ints.drew ?_) | (with_reducible refine Ints.alloc ?_ _) | (with_reducible refine Ints.below ?_ b2))); rintro e w4 ⟨x4, rfl, o4, b4⟩)
      | (go_at_call 65; refine (addressBytes_any k _ nm p qs _ ?_ HA.out).mono ?_; (repeat (first | (with_reducible exact I1.out) | (with_reducible refine Ints.drew ?_) | (with_reducible refine Ints.alloc ?_ _))); rintro e w2 ⟨x2, rfl, o2, b2⟩; obtain ⟨A2, d2, rfl, _, _, _⟩ := o2.form)
      | fail)
  all_goals
    rename_i hS
    have hbw := hS.2.2.2.2.2.2.2
    go_wp2_with fail
    go_ret2
    refine ⟨_, by rw [HOK.out]; rfl, ?_, hbw⟩
    rw [E.out, ← pk_flat]
    refine o4.more ?_
    have s2 := b2.size
    simp at s2 ⊢
    omega

theorem six_belowB {w W W' : World} {B C : Nat} {x y z u v t : Value} (h : W.cell? ⟨B, 0, none⟩ = some x ∧ W.cell? ⟨B, 1, none⟩ = some y ∧ W.cell? ⟨B, 2, none⟩ = some z ∧ W.cell? ⟨B, 3, none⟩ = some u ∧ W.cell? ⟨B, 4, none⟩ = some v ∧ W.cell? ⟨B, 5, none⟩ = some t ∧ B < W.heap.size ∧ Below w.heap.size w W) (b : Below C W W') (hB : w.heap.size ≤ C) (hC : B < C) :
    W'.cell? ⟨B, 0, none⟩ = some x ∧ W'.cell? ⟨B, 1, none⟩ = some y ∧ W'.cell? ⟨B, 2, none⟩ = some z ∧ W'.cell? ⟨B, 3, none⟩ = some u ∧ W'.cell? ⟨B, 4, none⟩ = some v ∧ W'.cell? ⟨B, 5, none⟩ = some t ∧ B < W'.heap.size ∧ Below w.heap.size w W' := by
  obtain ⟨h0, h1, h2, h3, h4, h5, h6, h7⟩ := h
  exact ⟨(b.cell (p := ⟨B, 0, none⟩) hC).trans h0, (b.cell (p := ⟨B, 1, none⟩) hC).trans h1, (b.cell (p := ⟨B, 2, none⟩) hC).trans h2, (b.cell (p := ⟨B, 3, none⟩) hC).trans h3, (b.cell (p := ⟨B, 4, none⟩) hC).trans h4, (b.cell (p := ⟨B, 5, none⟩) hC).trans h5, Nat.lt_of_lt_of_le h6 b.size, h7.trans (b.mono hB)⟩
theorem Ints.belowSix {w W : World} {lo B : Nat} {d x y z u v t : Value} {zs : List Int} (h : Ints w lo d zs) (hs : W.cell? ⟨B, 0, none⟩ = some x ∧ W.cell? ⟨B, 1, none⟩ = some y ∧ W.cell? ⟨B, 2, none⟩ = some z ∧ W.cell? ⟨B, 3, none⟩ = some u ∧ W.cell? ⟨B, 4, none⟩ = some v ∧ W.cell? ⟨B, 5, none⟩ = some t ∧ B < W.heap.size ∧ Below w.heap.size w W) : Ints W lo d zs := h.below hs.2.2.2.2.2.2.2
theorem pk_app (f k : Int) (qs : List Int) (nm : ByteArray) (p : Int) (ds : List Int) : ([0, 0, f] ++ adB k qs nm p) ++ ds = pkB f k qs nm p ds := by simp [pkB]

set_option maxRecDepth 100000 in
set_option maxHeartbeats 8000000 in
theorem spec_PacketBytes_any (f k : Int) (q : Value) (nm : ByteArray) (p : Int) (qs : List Int) (d : Value) (ds : List Int) (w : World) (hq : Ints w 0 q qs) (hd : Ints w 0 d ds) (hn : nm.size < 4294967281) :
    Calls Tryd.prog 28 #[.agg #[.int .i64 f, .int .i64 k, q, .string nm, .int .i64 p, d]] w fun e w' => Gave w (pkL f k qs nm p ds) (pkOk f k qs nm p ds) e w' := by
  have HQ := Lib.hid hq
  have HD := Lib.hid hd
  obtain ⟨A, c, rfl, hc, hm, _⟩ := hq.open_
  obtain ⟨A9, c9, rfl, hc9, hm9, _⟩ := hd.open_
  obtain ⟨V, hV⟩ : ∃ V, w.alloc (.cells #[.int .i64 f, .int .i64 k, .slice A qs.length c, .string nm, .int .i64 p, .slice A9 ds.length c9] 41) = V := ⟨_, rfl⟩
  have K : Hid (Blk V w.heap.size 41 #[.int .i64 f, .int .i64 k, .slice A qs.length c, .string nm, .int .i64 p, .slice A9 ds.length c9]) := Lib.hid (by rw [← hV]; exact Blk.new _ _ _)
  have B : Hid (Below w.heap.size w V) := Lib.hid (by rw [← hV]; exact (Below.refl _ _).alloc (Nat.le_refl _) _)
  have I : Hid (Ints V 0 (.slice A qs.length c) qs) := Lib.hid (by rw [← hV]; exact HQ.out.alloc _)
  have D : Hid (Ints V 0 (.slice A9 ds.length c9) ds) := Lib.hid (by rw [← hV]; exact HD.out.alloc _)
  have a0 : V.cell? ⟨w.heap.size, 0, none⟩ = some (.int .i64 f) := K.out.cell 0
  have a1 : V.cell? ⟨w.heap.size, 1, none⟩ = some (.int .i64 k) := K.out.cell 1
  have a2 : V.cell? ⟨w.heap.size, 2, none⟩ = some (.slice A qs.length c) := K.out.cell 2
  have a3 : V.cell? ⟨w.heap.size, 3, none⟩ = some (.string nm) := K.out.cell 3
  have a4 : V.cell? ⟨w.heap.size, 4, none⟩ = some (.int .i64 p) := K.out.cell 4
  have a5 : V.cell? ⟨w.heap.size, 5, none⟩ = some (.slice A9 ds.length c9) := K.out.cell 5
  clear hq hd
  go_enter Tryd.func28, Tryd.ntmps28
  go_wp2_with fail
  clear hV a0 a1 a2 a3 a4 a5
  refine (l13Ok_any f k _ nm p qs _ ds _ I.out D.out hn).mono ?_
  rintro e w1 ⟨rfl, b1⟩
  have K1 := Lib.hid (K.out.kept b1)
  have B1 := Lib.hid (B.out.trans (b1.mono B.out.size))
  have I1 := Lib.hid (I.out.below b1)
  have hs1 := B1.out.size
  clear b1 K B I D
  cases hok : pkOk f k qs nm p ds
  · have HOK := Lib.hid hok
    have E := Lib.hid (pkL_not hok)
    clear hok
    go_wp2_with fail
    go_ret2
    exact ⟨_, by rw [HOK.out]; rfl, by rw [E.out]; exact Own.lit w1 [] _ hs1 (by simp), B1.out.alloc hs1 _⟩
  have HOK := Lib.hid hok
  have E := Lib.hid (pkL_ok hok)
  have HA := Lib.hid (pkOk_parts hok).2.1
  have hlen : (adB k qs nm p).length + ds.length ≤ 100 := by have := pkB_length hok; rw [← pk_app] at this; simp at this; omega
  have hzb : w.heap.size < w1.heap.size := K1.out.lt
  have S0 : Hid (w1.drew.cell? ⟨w.heap.size, 0, none⟩ = some (.int .i64 f) ∧ w1.drew.cell? ⟨w.heap.size, 1, none⟩ = some (.int .i64 k) ∧ w1.drew.cell? ⟨w.heap.size, 2, none⟩ = some (.slice A qs.length c) ∧ w1.drew.cell? ⟨w.heap.size, 3, none⟩ = some (.string nm) ∧ w1.drew.cell? ⟨w.heap.size, 4, none⟩ = some (.int .i64 p) ∧ w1.drew.cell? ⟨w.heap.size, 5, none⟩ = some (.slice A9 ds.length c9) ∧ w.heap.size < w1.drew.heap.size ∧ Below w.heap.size w w1.drew) :=
    Lib.hid ⟨K1.out.cell 0, K1.out.cell 1, K1.out.cell 2, K1.out.cell 3, K1.out.cell 4, K1.out.cell 5, K1.out.lt, B1.out.drew⟩
  clear hok
  go_wp2_with fail
  go_region_held3 (fun W => W.cell? ⟨w.heap.size, 0, none⟩ = some (.int .i64 f) ∧ W.cell? ⟨w.heap.size, 1, none⟩ = some (.int .i64 k) ∧ W.cell? ⟨w.heap.size, 2, none⟩ = some (.slice A qs.length c) ∧ W.cell? ⟨w.heap.size, 3, none⟩ = some (.string nm) ∧ W.cell? ⟨w.heap.size, 4, none⟩ = some (.int .i64 p) ∧ W.cell? ⟨w.heap.size, 5, none⟩ = some (.slice A9 ds.length c9) ∧ w.heap.size < W.heap.size ∧ Below w.heap.size w W)
    (first | with_reducible exact S0.out | with_reducible exact six_belowB ‹_› b4 (Nat.le_succ _) (Nat.lt_succ_self _) | with_reducible exact six_belowB ‹_› b3 (Nat.le_succ _) (Nat.lt_succ_self _) | with_reducible exact six_below ‹_› b2 | exact six_alloc ‹_› _)
    (first
      | (go_at_call 73; refine (l3Bytes_any k _ nm p qs _ ?_ HA.out).mono ?_; (repeat (first | (with_reducible exact I1.out) | (with_reducible refine Ints.drew ?_) | (with_reducible refine Ints.alloc ?_ _))); rintro e w2 ⟨x2, rfl, o2, b2⟩; obtain ⟨A2, d2, rfl, _, _, _⟩ := o2.form)
      | (refine step_ints (by rfl) (.tmp 10) (.tmp 13) (by rfl) (by rfl) (by rfl) (base := w.heap.size + 1) (v := .slice (some ⟨_, 0, none⟩) 3 3) (u := .slice A2 _ d2) (zs := [0, 0, f]) (ys := adB k qs nm p) ?_ ?_ ?_ ?_ ?_; (repeat (first | ((with_reducible refine Own.lit_3 ?_ ?_); (first | rfl | (simp)); (first | exact hzb | (have s3 : w1.heap.size ≤ w2.heap.size := b2.size; omega))) | (with_reducible refine Own.drew ?_) | (with_reducible refine Own.alloc ?_ _) | (with_reducible refine Own.below ?_ b2))); (repeat (first | (with_reducible exact o2.ints.zero) | (with_reducible refine Ints.drew ?_) | (with_reducible refine Ints.alloc ?_ _))); (simp; omega); (have s2 := b2.size; first | (change (World.alloc _ _).heap.size ≤ _ at s2; rw [World.size_alloc] at s2; omega) | (have s3 : w1.heap.size ≤ w2.heap.size := s2; show _ ≤ (World.alloc _ _).heap.size; rw [World.size_alloc]; omega)); intro v3 w3 o3 b3 g3 k3)
      | (refine step_ints (by rfl) (.tmp 14) (.tmp 16) (by rfl) (by rfl) (by rfl) (base := w.heap.size + 1) (v := v3) (u := .slice A9 ds.length c9) (zs := [0, 0, f] ++ adB k qs nm p) (ys := ds) o3 (HD.out.belowSix ‹_›) (by simp; omega) (by have := b3.size; have := b2.size; first | omega | (simp at *; omega)) ?_; intro v4 w4 o4 b4 g4 k4)
      | fail)
  all_goals
    rename_i hS
    have hbw := hS.2.2.2.2.2.2.2
    go_wp2_with fail
    go_ret2
    refine ⟨_, by rw [HOK.out]; rfl, ?_, hbw⟩
    rw [E.out, ← pk_app]
    exact o4.more (Nat.le_succ _)
end Go.Proofs.YtolbkdcnmkmncaaDoor

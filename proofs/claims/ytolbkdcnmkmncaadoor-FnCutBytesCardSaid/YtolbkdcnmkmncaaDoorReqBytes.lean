/-
  RequestBytes of the program and of the reference return the same bytes, in memory of their own, or fail alike. Conditions: the quad reads as a list of integers, the name has fewer than 2^32 - 15 bytes.
-/
import Derived.Test.YtolbkdcnmkmncaaDoorCodeBytes
namespace Go.Proofs.YtolbkdcnmkmncaaDoor
open Go.RowKit

theorem five_alloc {w W : World} {B : Nat} {x y z u v : Value} (h : W.cell? ⟨B, 0, none⟩ = some x ∧ W.cell? ⟨B, 1, none⟩ = some y ∧ W.cell? ⟨B, 2, none⟩ = some z ∧ W.cell? ⟨B, 3, none⟩ = some u ∧ W.cell? ⟨B, 4, none⟩ = some v ∧ B < W.heap.size ∧ Below w.heap.size w W) (o : Obj) :
    (W.alloc o).cell? ⟨B, 0, none⟩ = some x ∧ (W.alloc o).cell? ⟨B, 1, none⟩ = some y ∧ (W.alloc o).cell? ⟨B, 2, none⟩ = some z ∧ (W.alloc o).cell? ⟨B, 3, none⟩ = some u ∧ (W.alloc o).cell? ⟨B, 4, none⟩ = some v ∧ B < (W.alloc o).heap.size ∧ Below w.heap.size w (W.alloc o) := by
  obtain ⟨h0, h1, h2, h3, h4, h5, h6⟩ := h
  exact ⟨(World.cell?_alloc_lt W o ⟨B, 0, none⟩ h5).trans h0, (World.cell?_alloc_lt W o ⟨B, 1, none⟩ h5).trans h1, (World.cell?_alloc_lt W o ⟨B, 2, none⟩ h5).trans h2, (World.cell?_alloc_lt W o ⟨B, 3, none⟩ h5).trans h3, (World.cell?_alloc_lt W o ⟨B, 4, none⟩ h5).trans h4, by simp; omega, h6.alloc h6.size o⟩
theorem five_belowB {w W W' : World} {B C : Nat} {x y z u v : Value} (h : W.cell? ⟨B, 0, none⟩ = some x ∧ W.cell? ⟨B, 1, none⟩ = some y ∧ W.cell? ⟨B, 2, none⟩ = some z ∧ W.cell? ⟨B, 3, none⟩ = some u ∧ W.cell? ⟨B, 4, none⟩ = some v ∧ B < W.heap.size ∧ Below w.heap.size w W) (b : Below C W W') (hB : w.heap.size ≤ C) (hC : B < C) :
    W'.cell? ⟨B, 0, none⟩ = some x ∧ W'.cell? ⟨B, 1, none⟩ = some y ∧ W'.cell? ⟨B, 2, none⟩ = some z ∧ W'.cell? ⟨B, 3, none⟩ = some u ∧ W'.cell? ⟨B, 4, none⟩ = some v ∧ B < W'.heap.size ∧ Below w.heap.size w W' := by
  obtain ⟨h0, h1, h2, h3, h4, h5, h6⟩ := h
  exact ⟨(b.cell (p := ⟨B, 0, none⟩) hC).trans h0, (b.cell (p := ⟨B, 1, none⟩) hC).trans h1, (b.cell (p := ⟨B, 2, none⟩) hC).trans h2, (b.cell (p := ⟨B, 3, none⟩) hC).trans h3, (b.cell (p := ⟨B, 4, none⟩) hC).trans h4, Nat.lt_of_lt_of_le h5 b.size, h6.trans (b.mono hB)⟩
theorem five_below {w W W' : World} {B : Nat} {x y z u v : Value} (h : W.cell? ⟨B, 0, none⟩ = some x ∧ W.cell? ⟨B, 1, none⟩ = some y ∧ W.cell? ⟨B, 2, none⟩ = some z ∧ W.cell? ⟨B, 3, none⟩ = some u ∧ W.cell? ⟨B, 4, none⟩ = some v ∧ B < W.heap.size ∧ Below w.heap.size w W) (b : Below W.heap.size W W') :
    W'.cell? ⟨B, 0, none⟩ = some x ∧ W'.cell? ⟨B, 1, none⟩ = some y ∧ W'.cell? ⟨B, 2, none⟩ = some z ∧ W'.cell? ⟨B, 3, none⟩ = some u ∧ W'.cell? ⟨B, 4, none⟩ = some v ∧ B < W'.heap.size ∧ Below w.heap.size w W' := five_belowB h b h.2.2.2.2.2.2.size h.2.2.2.2.2.1

set_option maxRecDepth 100000 in
set_option maxHeartbeats 2000000 in
theorem isRequest_any (code k : Int) (q : Value) (nm : ByteArray) (p : Int) (qs : List Int) (w : World) (hq : Ints w 0 q qs) (hn : nm.size < 4294967281) :
    Calls Tryd.prog 68 #[.agg #[.int .i64 code, .int .i64 k, q, .string nm, .int .i64 p]] w fun e w' => e = .returned (.bool (rqOk code k qs nm p)) ∧ Below w.heap.size w w' := by
  have HQ := Lib.hid hq
  obtain ⟨A, c, rfl, hc, hm, _⟩ := hq.open_
  have B0 : Hid (∀ cs, Below w.heap.size w (w.alloc (.cells cs 35))) := Lib.hid fun cs => (Below.refl _ _).alloc (Nat.le_refl _) _
  clear hq
  cases hc1 : inR code 1 3
  · have HOK : Hid (rqOk code k qs nm p = false) := Lib.hid (by rw [rqOk, hc1]; rfl)
    go_enter Tryd.func68, Tryd.ntmps68
    go_wp2_with (go_at_call 63; refine (within_any _ _ _ _).mono ?_; rintro e w' ⟨rfl, rfl⟩; rw [hc1])
    go_ret
    exact ⟨ret_bool HOK.out.symm, B0.out _⟩
  · have HOK : Hid (rqOk code k qs nm p = adOk k qs nm p) := Lib.hid (by rw [rqOk, hc1]; rfl)
    go_enter Tryd.func68, Tryd.ntmps68
    go_wp2_with (go_at_call 63; refine (within_any _ _ _ _).mono ?_; rintro e w' ⟨rfl, rfl⟩; rw [hc1])
    refine (impl_AddressValid_any k _ nm p qs _ (HQ.out.alloc _) hn).mono ?_
    rintro e w1 ⟨rfl, b1⟩
    have B1 := Lib.hid ((B0.out _).trans (b1.mono (by simp)))
    clear b1
    go_wp2_with fail
    go_ret
    exact ⟨ret_bool HOK.out.symm, B1.out⟩

set_option maxRecDepth 100000 in
set_option maxHeartbeats 4000000 in
theorem spec_RequestBytes_any (code k : Int) (q : Value) (nm : ByteArray) (p : Int) (qs : List Int) (w : World) (hq : Ints w 0 q qs) (hn : nm.size < 4294967281) :
    Calls Tryd.prog 66 #[.agg #[.int .i64 code, .int .i64 k, q, .string nm, .int .i64 p]] w fun e w' => Gave w (rqL code k qs nm p) (rqOk code k qs nm p) e w' := by
  have HQ := Lib.hid hq
  obtain ⟨A, c, rfl, hc, hm, _⟩ := hq.open_
  have B0 : Hid (∀ cs, Below w.heap.size w (w.alloc (.cells cs 35))) := Lib.hid fun cs => (Below.refl _ _).alloc (Nat.le_refl _) _
  have K0 := Lib.hid (Blk.new w 35 #[.int .i64 code, .int .i64 k, .slice A qs.length c, .string nm, .int .i64 p])
  clear hq
  cases hc1 : inR code 1 3
  · have HOK : Hid (rqOk code k qs nm p = false) := Lib.hid (by rw [rqOk, hc1]; rfl)
    have E := Lib.hid (rqL_not HOK.out)
    go_enter Tryd.func66, Tryd.ntmps66
    go_wp2_with (go_at_call 62; refine (l6In_any _ _ _ _).mono ?_; rintro e w' ⟨rfl, rfl⟩; rw [hc1])
    go_ret2
    exact ⟨_, by rw [HOK.out]; rfl, by rw [E.out]; exact Own.lit_0 (g := w.heap.size + 1) (World.size_alloc _ _).symm (by simp), (B0.out _).alloc (by simp) _⟩
  go_enter Tryd.func66, Tryd.ntmps66
  go_wp2_with (go_at_call 62; refine (l6In_any _ _ _ _).mono ?_; rintro e w' ⟨rfl, rfl⟩; rw [hc1])
  refine (spec_AddressValid_any k _ nm p qs _ (HQ.out.alloc _) hn).mono ?_
  rintro e w1 ⟨rfl, b1⟩
  have K1 := Lib.hid (K0.out.kept b1)
  have B1 := Lib.hid ((B0.out _).trans (b1.mono (by simp)))
  have I1 := Lib.hid ((HQ.out.alloc _).below b1)
  have a0 : w1.cell? ⟨w.heap.size, 0, none⟩ = some (.int .i64 code) := K1.out.cell 0
  have a1 : w1.cell? ⟨w.heap.size, 1, none⟩ = some (.int .i64 k) := K1.out.cell 1
  have a2 : w1.cell? ⟨w.heap.size, 2, none⟩ = some (.slice A qs.length c) := K1.out.cell 2
  have a3 : w1.cell? ⟨w.heap.size, 3, none⟩ = some (.string nm) := K1.out.cell 3
  have a4 : w1.cell? ⟨w.heap.size, 4, none⟩ = some (.int .i64 p) := K1.out.cell 4
  have hs1 := B1.out.size
  clear b1
  cases hok : adOk k qs nm p
  · have HOK : Hid (rqOk code k qs nm p = false) := Lib.hid (by rw [rqOk, hok, Bool.and_false])
    have E := Lib.hid (rqL_not HOK.out)
    clear hok
    go_wp2_with fail
    go_ret2
    exact ⟨_, by rw [HOK.out]; rfl, by rw [E.out]; exact Own.lit w1 [] _ hs1 (by simp), B1.out.alloc hs1 _⟩
  · have HOK : Hid (rqOk code k qs nm p = true) := Lib.hid (by rw [rqOk, hok, hc1]; rfl)
    have E := Lib.hid (rqL_ok HOK.out)
    have HA := Lib.hid hok
    clear hok
    go_wp2_with fail
    refine (l12Bytes_any code k _ nm p qs _ I1.out HA.out).mono ?_
    rintro e w2 ⟨v2, rfl, o2, b2⟩
    have O2 := Lib.hid (o2.more hs1)
    have B2 := Lib.hid (B1.out.trans (b2.mono hs1))
    clear o2 b2
    go_wp2_with fail
    go_ret2
    exact ⟨_, by rw [HOK.out]; rfl, by rw [E.out]; exact O2.out, B2.out⟩

set_option maxRecDepth 100000 in
set_option maxHeartbeats 8000000 in
theorem impl_RequestBytes_any (code k : Int) (q : Value) (nm : ByteArray) (p : Int) (qs : List Int) (w : World) (hq : Ints w 0 q qs) (hn : nm.size < 4294967281) :
    Calls Tryd.prog 25 #[.agg #[.int .i64 code, .int .i64 k, q, .string nm, .int .i64 p]] w fun e w' => Gave w (rqL code k qs nm p) (rqOk code k qs nm p) e w' := by
  have HQ := Lib.hid hq
  obtain ⟨A, c, rfl, hc, hm, _⟩ := hq.open_
  have B0 : Hid (∀ cs, Below w.heap.size w (w.alloc (.cells cs 35))) := Lib.hid fun cs => (Below.refl _ _).alloc (Nat.le_refl _) _
  have K0 := Lib.hid (Blk.new w 35 #[.int .i64 code, .int .i64 k, .slice A qs.length c, .string nm, .int .i64 p])
  clear hq
  go_enter Tryd.func25, Tryd.ntmps25
  go_wp2_with fail
  refine (isRequest_any code k _ nm p qs _ (HQ.out.alloc _) hn).mono ?_
  rintro e w1 ⟨rfl, b1⟩
  have K1 := Lib.hid (K0.out.kept b1)
  have B1 := Lib.hid ((B0.out _).trans (b1.mono (by simp)))
  have I1 := Lib.hid ((HQ.out.alloc _).below b1)
  have hs1 := B1.out.size
  clear b1
  cases hok : rqOk code k qs nm p
  · have HOK := Lib.hid hok
    have E := Lib.hid (rqL_not hok)
    clear hok
    go_wp2_with fail
    go_ret2
    exact ⟨_, by rw [HOK.out]; rfl, by rw [E.out]; exact Own.nil_ _ _, B1.out⟩
  · have HOK := Lib.hid hok
    have E := Lib.hid (rqL_ok hok)
    have hok2 : adOk k qs nm p = true := by rw [rqOk, Bool.and_eq_true] at hok; exact hok.2
    have HA := Lib.hid hok2
    have HLen := Lib.hid (adB_length hok2)
    have c0 : w1.drew.cell? ⟨w.heap.size, 0, none⟩ = some (.int .i64 code) := K1.out.cell 0
    have c1 : w1.drew.cell? ⟨w.heap.size, 1, none⟩ = some (.int .i64 k) := K1.out.cell 1
    have c2 : w1.drew.cell? ⟨w.heap.size, 2, none⟩ = some (.slice A qs.length c) := K1.out.cell 2
    have c3 : w1.drew.cell? ⟨w.heap.size, 3, none⟩ = some (.string nm) := K1.out.cell 3
    have c4 : w1.drew.cell? ⟨w.heap.size, 4, none⟩ = some (.int .i64 p) := K1.out.cell 4
    have hzb : w.heap.size < w1.drew.heap.size := K1.out.lt
    have hzb1 : w.heap.size < w1.heap.size := K1.out.lt
    have HB : Hid (Below w.heap.size w w1.drew) := Lib.hid B1.out.drew
    have hl := HLen.out.2.1
    clear hok hok2
    go_wp2_with fail
    go_region_held3 (fun w' => w'.cell? ⟨w.heap.size, 0, none⟩ = some (.int .i64 code) ∧ w'.cell? ⟨w.heap.size, 1, none⟩ = some (.int .i64 k) ∧ w'.cell? ⟨w.heap.size, 2, none⟩ = some (.slice A qs.length c) ∧ w'.cell? ⟨w.heap.size, 3, none⟩ = some (.string nm) ∧ w'.cell? ⟨w.heap.size, 4, none⟩ = some (.int .i64 p) ∧ w.heap.size < w'.heap.size ∧ Below w.heap.size w w') (first | exact ⟨c0, c1, c2, c3, c4, hzb, HB.out⟩ | exact five_belowB ‹_› b3 (Nat.le_succ _) (Nat.lt_succ_self _) | exact five_alloc ‹_› _ | exact five_below ‹_› b2)
      (first
        | (go_at_call 65; refine (addressBytes_any k _ nm p qs _ ?_ HA.out).mono ?_; (repeat (first | (with_reducible exact I1.out) | (with_reducible refine Ints.drew ?_) | (with_reducible refine Ints.alloc ?_ _))); rintro e w2 ⟨x2, rfl, o2, b2⟩; obtain ⟨A2, d2, rfl, _, _, _⟩ := o2.form)
        | (refine step_ints (by rfl) (.tmp 9) (.tmp 12) (by rfl) (by rfl) (by rfl) (base := w.heap.size + 1) (v := .slice (some ⟨_, 0, none⟩) 3 3) (u := .slice A2 _ d2) (zs := [5, code, 0]) (ys := adB k qs nm p) ?_ ?_ ?_ ?_ ?_; (repeat (first | ((with_reducible refine Own.lit_3 ?_ ?_); (first | rfl | (simp)); (first | exact hzb | (have s3 : w1.heap.size ≤ w2.heap.size := b2.size; omega))) | (with_reducible refine Own.drew ?_) | (with_reducible refine Own.alloc ?_ _) | (with_reducible refine Own.below ?_ b2))); (repeat (first | (with_reducible exact o2.ints.zero) | (with_reducible refine Ints.drew ?_) | (with_reducible refine Ints.alloc ?_ _))); (simp; omega); (have s2 := b2.size; first | (change (World.alloc _ _).heap.size ≤ _ at s2; rw [World.size_alloc] at s2; omega) | (have s3 : w1.heap.size ≤ w2.heap.size := s2; show _ ≤ (World.alloc _ _).heap.size; rw [World.size_alloc]; omega)); intro v3 w3 o3 b3 g3 k3)
        | fail)
    all_goals
      obtain ⟨_, _, _, _, _, _, bw3⟩ : w3.cell? ⟨w.heap.size, 0, none⟩ = some (.int .i64 code) ∧ w3.cell? ⟨w.heap.size, 1, none⟩ = some (.int .i64 k) ∧ w3.cell? ⟨w.heap.size, 2, none⟩ = some (.slice A qs.length c) ∧ w3.cell? ⟨w.heap.size, 3, none⟩ = some (.string nm) ∧ w3.cell? ⟨w.heap.size, 4, none⟩ = some (.int .i64 p) ∧ w.heap.size < w3.heap.size ∧ Below w.heap.size w w3 := by assumption
      go_wp2_with fail
      go_ret2
      exact ⟨_, by rw [HOK.out]; rfl, by rw [E.out]; exact o3.more (Nat.le_succ _), bw3⟩
end Go.Proofs.YtolbkdcnmkmncaaDoor

/-
  The bytes of a valid address: the program's addressBytes, and AddressBytes. Conditions: the quad reads as a list of integers.
-/
import Derived.Test.YtahlgdehfjjoeaaDoorAdBytes
import Derived.Test.YtahlgdehfjjoeaaDoorGave
namespace Go.Proofs.YtahlgdehfjjoeaaDoor
open Go.RowKit

set_option maxRecDepth 100000 in
set_option maxHeartbeats 8000000 in
theorem addressBytes_any (k : Int) (q : Value) (nm : ByteArray) (p : Int) (qs : List Int) (w : World) (hq : Ints w 0 q qs) (hok : adOk k qs nm p = true) :
    Calls Tryd.prog 60 #[.agg #[.int .i64 k, q, .string nm, .int .i64 p]] w fun e w' => ∃ v, e = .returned v ∧ Own w' w.heap.size v (adB k qs nm p) ∧ Below w.heap.size w w' := by
  have HQ := Lib.hid hq
  obtain ⟨A, c, rfl, hc, hm, _⟩ := hq.open_
  have B0 : Hid (∀ cs, Below w.heap.size w (w.alloc (.cells cs 25))) := Lib.hid fun cs => (Below.refl _ _).alloc (Nat.le_refl _) _
  have K0 := Lib.hid (Blk.new w 25 #[.int .i64 k, .slice A qs.length c, .string nm, .int .i64 p])
  obtain ⟨hp0, hp1⟩ := adOk_port hok
  obtain ⟨hql, hnl⟩ := adOk_sizes hok
  have HNL := Lib.hid (numsOf_length nm)
  clear hq
  by_cases hk1 : k = 1
  · have E : Hid (adB k qs nm p = [k] ++ qs ++ num2 p) := Lib.hid (by rw [hk1, adB_quad]; rfl)
    have hk1' : (k == 1) = true := by simpa using hk1
    clear hok hk1
    go_enter Tryd.func60, Tryd.ntmps60
    go_wp2_with (at_builtin; refine wp_ints rfl (.tmp 10) (.tmp 12) rfl rfl rfl (Own.lit_1 (base := w.heap.size + 1) (World.size_alloc _ _).symm (Nat.le_of_eq (World.size_alloc _ _).symm)) ((HQ.out.alloc _).alloc _) (by simp; omega) (by simp) ?_; intro v2 w2 o2 b2 g2 k2; have K2 := Lib.hid (K0.out.below (((Below.refl (w.heap.size + 1) _).alloc (by simp) _).trans b2) (Nat.lt_succ_self _)); have a3 : w2.cell? ⟨w.heap.size, 3, none⟩ = some (.int .i64 p) := K2.out.cell 3)
    have b02 : Below (w.heap.size + 1) (w.alloc (.cells #[.int .i64 k, .slice A qs.length c, .string nm, .int .i64 p] 25)) w2 := ((Below.refl _ _).alloc (by simp) _).trans b2
    have B2 := Lib.hid ((B0.out _).trans (b02.mono (Nat.le_succ _)))
    have O2 := Lib.hid o2
    have hz2 := b02.size
    simp at hz2
    clear o2 b2 g2 k2 b02
    refine (numberBytes_any p _ hp0 hp1).mono ?_
    rintro e w3 ⟨v3, rfl, o3, b3⟩
    have O3 := Lib.hid o3.ints.zero
    have O23 := Lib.hid (O2.out.below b3)
    have B3 := Lib.hid (B2.out.trans (b3.mono B2.out.size))
    have hz3 := b3.size
    clear o3 b3 O2
    go_wp2_with (at_builtin; refine wp_ints rfl (.tmp 24) (.tmp 27) rfl rfl rfl O23.out O3.out (by simp [num2]; omega) (by omega) ?_; intro v4 w4 o4 b4 g4 k4)
    go_ret
    exact ⟨_, rfl, by rw [E.out]; exact o4.more (Nat.le_succ _), B3.out.trans (b4.mono (Nat.le_succ _))⟩
  · have E : Hid (adB k qs nm p = [k] ++ [(nm.size : Int)] ++ numsOf nm ++ num2 p) := Lib.hid (by rw [adB_name k hk1]; simp)
    have hk1' : (k == 1) = false := by simpa using hk1
    clear hok hk1
    go_enter Tryd.func60, Tryd.ntmps60
    go_wp2_with fail
    have c2 : ((w.alloc (.cells #[.int .i64 k, .slice A qs.length c, .string nm, .int .i64 p] 25)).alloc (.cells #[.int .i64 k] 3)).drew.cell? ⟨w.heap.size, 2, none⟩ = some (.string nm) := (K0.out.alloc _).cell 2
    have hzb : w.heap.size < ((w.alloc (.cells #[.int .i64 k, .slice A qs.length c, .string nm, .int .i64 p] 25)).alloc (.cells #[.int .i64 k] 3)).drew.heap.size := by show _ < (World.alloc _ _).heap.size; rw [World.size_alloc, World.size_alloc]; omega
    have HBB : Hid (Below w.heap.size w ((w.alloc (.cells #[.int .i64 k, .slice A qs.length c, .string nm, .int .i64 p] 25)).alloc (.cells #[.int .i64 k] 3)).drew) := Lib.hid (((B0.out _).alloc (by simp) _).drew)
    go_region_held3 (fun w' => w'.cell? ⟨w.heap.size, 2, none⟩ = some (.string nm) ∧ w.heap.size < w'.heap.size ∧ Below w.heap.size w w') (first | exact ⟨c2, hzb, HBB.out⟩ | exact one_belowB ‹_› b4 (Nat.le_refl _) | exact one_belowB ‹_› b3 (Nat.le_refl _) | exact one_alloc ‹_› _ | exact one_below ‹_› b2)
      (first
        | (go_at_call 75; refine (textBytes_any nm _ (by omega)).mono ?_; rintro e w2 ⟨x2, rfl, o2, b2⟩; obtain ⟨A2, d2, rfl, _, _, _⟩ := o2.form)
        | (refine step_ints (by rfl) (.tmp 14) (.tmp 18) (by rfl) (by rfl) (by rfl) (base := w.heap.size + 1) (v := .slice (some ⟨_, 0, none⟩) 1 1) (u := .slice (some ⟨_, 0, none⟩) 1 1) (zs := [k]) (ys := [(nm.size : Int)]) ?_ ?_ ?_ ?_ ?_; (repeat (first | ((with_reducible refine Own.lit_1 ?_ ?_); (first | rfl | (simp)); (simp)) | (with_reducible refine Own.drew ?_) | (with_reducible refine Own.alloc ?_ _))); (repeat (first | ((with_reducible refine Ints.lit_1 ?_); (first | rfl | (simp))) | (with_reducible refine Ints.drew ?_) | (with_reducible refine Ints.alloc ?_ _))); (simp); (show w.heap.size + 1 ≤ (World.alloc _ _).heap.size; rw [World.size_alloc, World.size_alloc, World.size_alloc]; omega); intro v3 w3 o3 b3 g3 k3; obtain ⟨A3, d3, rfl, _, _, _⟩ := o3.form)
        | (refine step_ints (by rfl) (.tmp 19) (.tmp 22) (by rfl) (by rfl) (by rfl) (base := w.heap.size + 1) (v := .slice A3 _ d3) (u := .slice A2 _ d2) (zs := [k] ++ [(nm.size : Int)]) (ys := numsOf nm) ?_ ?_ ?_ ?_ ?_; exact o3.below b2; exact o2.ints.zero; (rw [HNL.out]; simp; omega); (obtain ⟨_, hlt, _⟩ : w2.cell? ⟨w.heap.size, 2, none⟩ = some (.string nm) ∧ w.heap.size < w2.heap.size ∧ Below w.heap.size w w2 := by assumption); exact hlt; intro v4 w4 o4 b4 g4 k4))
    all_goals
      obtain ⟨_, hz4, bw4⟩ : w4.cell? ⟨w.heap.size, 2, none⟩ = some (.string nm) ∧ w.heap.size < w4.heap.size ∧ Below w.heap.size w w4 := by assumption
      have a3 : w4.cell? ⟨w.heap.size, 3, none⟩ = some (.int .i64 p) := by
        have K2 := Blk.below (show Blk (World.drew (World.alloc (World.alloc _ _) _)) _ _ _ from (K0.out.alloc (.cells #[.int .i64 k] 3)).alloc (.cells #[.int .i64 (nm.size : Int)] 3)) b3 (Nat.lt_succ_self _)
        exact ((K2.kept b2).below b4 (Nat.lt_succ_self _)).cell 3
      have O4 := Lib.hid o4
      have B4 := Lib.hid bw4
      clear o4 b4 g4 k4 o3 b3 g3 k3 o2 b2 bw4
      go_wp2_with fail
      refine (numberBytes_any p _ hp0 hp1).mono ?_
      rintro e w5 ⟨v5, rfl, o5, b5⟩
      have O5 := Lib.hid o5.ints.zero
      have O45 := Lib.hid (O4.out.below b5)
      have B5 := Lib.hid (B4.out.trans (b5.mono B4.out.size))
      have hz5 := b5.size
      clear o5 b5 O4
      go_wp2_with (at_builtin; refine wp_ints rfl (.tmp 24) (.tmp 27) rfl rfl rfl O45.out O5.out (by rw [List.length_append, HNL.out]; simp [num2]; omega) (by omega) ?_; intro v6 w6 o6 b6 g6 k6)
      go_ret
      exact ⟨_, rfl, by rw [E.out]; exact o6.more (Nat.le_succ _), B5.out.trans (b6.mono (Nat.le_succ _))⟩

set_option maxRecDepth 100000 in
set_option maxHeartbeats 2000000 in
theorem AddressBytes_any (k : Int) (q : Value) (nm : ByteArray) (p : Int) (qs : List Int) (w : World) (hq : Ints w 0 q qs) (hn : nm.size < 4294967281) :
    Calls Tryd.prog 32 #[.agg #[.int .i64 k, q, .string nm, .int .i64 p]] w fun e w' => Gave w (adL k qs nm p) (adOk k qs nm p) e w' := by
  have HQ := Lib.hid hq
  obtain ⟨A, c, rfl, hc, hm, _⟩ := hq.open_
  have B0 : Hid (∀ cs, Below w.heap.size w (w.alloc (.cells cs 25))) := Lib.hid fun cs => (Below.refl _ _).alloc (Nat.le_refl _) _
  have K0 := Lib.hid (Blk.new w 25 #[.int .i64 k, .slice A qs.length c, .string nm, .int .i64 p])
  clear hq
  go_enter Tryd.func32, Tryd.ntmps32
  go_wp2_with fail
  refine (impl_AddressValid_any k _ nm p qs _ (HQ.out.alloc _) hn).mono ?_
  rintro e w1 ⟨rfl, b1⟩
  have K1 := Lib.hid (K0.out.kept b1)
  have B1 := Lib.hid ((B0.out _).trans (b1.mono (by simp)))
  have I1 := Lib.hid ((HQ.out.alloc _).below b1)
  have a0 : w1.cell? ⟨w.heap.size, 0, none⟩ = some (.int .i64 k) := K1.out.cell 0
  have a1 : w1.cell? ⟨w.heap.size, 1, none⟩ = some (.slice A qs.length c) := K1.out.cell 1
  have a2 : w1.cell? ⟨w.heap.size, 2, none⟩ = some (.string nm) := K1.out.cell 2
  have a3 : w1.cell? ⟨w.heap.size, 3, none⟩ = some (.int .i64 p) := K1.out.cell 3
  clear b1
  cases hok : adOk k qs nm p
  · have E := Lib.hid (adL_not hok)
    have HOK := Lib.hid hok
    clear hok
    go_wp2_with fail
    go_ret2
    exact ⟨_, by rw [HOK.out]; rfl, by rw [E.out]; exact Own.nil_ _ _, B1.out⟩
  · have E := Lib.hid (adL_ok hok)
    have HOK := Lib.hid hok
    clear hok
    go_wp2_with fail
    refine (addressBytes_any k _ nm p qs _ I1.out HOK.out).mono ?_
    rintro e w2 ⟨v2, rfl, o2, b2⟩
    have O2 := Lib.hid o2
    have B2 := Lib.hid (B1.out.trans (b2.mono B1.out.size))
    have hs1 := B1.out.size
    clear o2 b2
    go_wp2_with fail
    go_ret2
    exact ⟨_, by rw [HOK.out]; rfl, by rw [E.out]; exact O2.out.more hs1, B2.out⟩
end Go.Proofs.YtahlgdehfjjoeaaDoor

/-
  The bytes of a valid address: addressBytes of the program and l3Bytes of the reference. Conditions: the address is valid; the quad reads as a list of integers.
  The bytes of a valid address: the program's addressBytes, and AddressBytes. Conditions: the quad reads as a list of integers.
-/
import Derived.Test.YtolbkdcnmkmncaaDoorAdOk
import Derived.Test.YtolbkdcnmkmncaaDoorNum
import Derived.Test.YtolbkdcnmkmncaaDoorTexts
import Derived.Deep.RegionHeld3
import Derived.Test.YtolbkdcnmkmncaaDoorAppend
namespace Go.Proofs.YtolbkdcnmkmncaaDoor
open Go.RowKit

theorem one_alloc {w W : World} {B i : Nat} {x : Value} (h : W.cell? ⟨B, i, none⟩ = some x ∧ B < W.heap.size ∧ Below w.heap.size w W) (o : Obj) :
    (W.alloc o).cell? ⟨B, i, none⟩ = some x ∧ B < (W.alloc o).heap.size ∧ Below w.heap.size w (W.alloc o) := by
  obtain ⟨h0, h2, h3⟩ := h
  exact ⟨(World.cell?_alloc_lt W o ⟨B, i, none⟩ h2).trans h0, by simp; omega, h3.alloc h3.size o⟩
theorem one_below {w W W' : World} {B i : Nat} {x : Value} (h : W.cell? ⟨B, i, none⟩ = some x ∧ B < W.heap.size ∧ Below w.heap.size w W) (b : Below W.heap.size W W') :
    W'.cell? ⟨B, i, none⟩ = some x ∧ B < W'.heap.size ∧ Below w.heap.size w W' := by
  obtain ⟨h0, h2, h3⟩ := h
  exact ⟨(b.cell (p := ⟨B, i, none⟩) h2).trans h0, Nat.lt_of_lt_of_le h2 b.size, h3.trans (b.mono h3.size)⟩
theorem one_belowB {w W W' : World} {B i : Nat} {x : Value} (h : W.cell? ⟨B, i, none⟩ = some x ∧ B < W.heap.size ∧ Below w.heap.size w W) (b : Below (B + 1) W W') (hB : w.heap.size ≤ B) :
    W'.cell? ⟨B, i, none⟩ = some x ∧ B < W'.heap.size ∧ Below w.heap.size w W' := by
  obtain ⟨h0, h2, h3⟩ := h
  exact ⟨(b.cell (p := ⟨B, i, none⟩) (Nat.lt_succ_self B)).trans h0, Nat.lt_of_lt_of_le h2 b.size, h3.trans (b.mono (by omega))⟩
theorem Own.lit_1 {W : World} {x : Int} {g base : Nat} (hg : g = W.heap.size) (hb : base ≤ W.heap.size) : Own (W.alloc (.cells #[.int .i64 x] 3)) base (.slice (some ⟨g, 0, none⟩) 1 1) [x] := by
  subst hg
  exact Own.lit W [x] base hb (by simp)
/-- A row of another, older block has grown. -/
theorem Own.apart {w w' : World} {base b n c : Nat} {v : Value} {zs : List Int} (h : Own w base v zs) (hg : w.grownBy w' (Value.slice (some ⟨b, 0, none⟩) n c).ownBlock) (hb : b < base) : Own w' base v zs := by
  refine h.keep hg ?_
  cases hv : v.ownBlock with
  | none => exact .inl rfl
  | some k =>
    right
    intro he
    have h1 := (World.ownsRow.lt h k hv).1
    have : k = b := by simpa [Value.ownBlock] using he
    omega

set_option maxRecDepth 100000 in
set_option maxHeartbeats 4000000 in
theorem l3Bytes_any (k : Int) (q : Value) (nm : ByteArray) (p : Int) (qs : List Int) (w : World) (hq : Ints w 0 q qs) (hok : adOk k qs nm p = true) :
    Calls Tryd.prog 73 #[.agg #[.int .i64 k, q, .string nm, .int .i64 p]] w fun e w' => ∃ v, e = .returned v ∧ Own w' w.heap.size v (adB k qs nm p) ∧ Below w.heap.size w w' := by
  have HQ := Lib.hid hq
  obtain ⟨A, c, rfl, hc, hm, _⟩ := hq.open_
  have B0 : Hid (∀ cs, Below w.heap.size w (w.alloc (.cells cs 26))) := Lib.hid fun cs => (Below.refl _ _).alloc (Nat.le_refl _) _
  have K0 := Lib.hid (Blk.new w 26 #[.int .i64 k, .slice A qs.length c, .string nm, .int .i64 p])
  obtain ⟨hp0, hp1⟩ := adOk_port hok
  obtain ⟨hql, hnl⟩ := adOk_sizes hok
  have HNL := Lib.hid (numsOf_length nm)
  clear hq
  by_cases hk1 : k = 1
  · have E : Hid (adB k qs nm p = [k] ++ qs ++ num2 p) := Lib.hid (by rw [hk1, adB_quad]; rfl)
    have hk1' : (k == 1) = true := by simpa using hk1
    clear hok hk1
    go_enter Tryd.func73, Tryd.ntmps73
    go_wp2_with (at_builtin; refine wp_ints rfl (.tmp 10) (.tmp 12) rfl rfl rfl (Own.lit_1 (base := w.heap.size + 1) (World.size_alloc _ _).symm (Nat.le_of_eq (World.size_alloc _ _).symm)) ((HQ.out.alloc _).alloc _) (by simp; omega) (by simp) ?_; intro v2 w2 o2 b2 g2 k2; have K2 := Lib.hid (K0.out.below (((Below.refl (w.heap.size + 1) _).alloc (by simp) _).trans b2) (Nat.lt_succ_self _)); have a3 : w2.cell? ⟨w.heap.size, 3, none⟩ = some (.int .i64 p) := K2.out.cell 3)
    have b02 : Below (w.heap.size + 1) (w.alloc (.cells #[.int .i64 k, .slice A qs.length c, .string nm, .int .i64 p] 26)) w2 := ((Below.refl _ _).alloc (by simp) _).trans b2
    have B2 := Lib.hid ((B0.out _).trans (b02.mono (Nat.le_succ _)))
    have O2 := Lib.hid o2
    have hz2 := b02.size
    simp at hz2
    clear o2 b2 g2 k2 b02
    refine (l1Number_any p _ hp0 hp1).mono ?_
    rintro e w3 ⟨v3, rfl, o3, b3⟩
    have O3 := Lib.hid o3.ints.zero
    have O23 := Lib.hid (O2.out.below b3)
    have B3 := Lib.hid (B2.out.trans (b3.mono B2.out.size))
    have hz3 := b3.size
    clear o3 b3 O2
    go_wp2_with (at_builtin; refine wp_ints rfl (.tmp 25) (.tmp 28) rfl rfl rfl O23.out O3.out (by simp [num2]; omega) (by omega) ?_; intro v4 w4 o4 b4 g4 k4)
    go_ret
    exact ⟨_, rfl, by rw [E.out]; exact o4.more (Nat.le_succ _), B3.out.trans (b4.mono (Nat.le_succ _))⟩
  · have E : Hid (adB k qs nm p = [k] ++ [(nm.size : Int)] ++ numsOf nm ++ num2 p) := Lib.hid (by rw [adB_name k hk1]; simp)
    have hk1' : (k == 1) = false := by simpa using hk1
    clear hok hk1
    go_enter Tryd.func73, Tryd.ntmps73
    go_wp2_with (at_builtin; refine wp_ints rfl (.tmp 14) (.tmp 18) rfl rfl rfl ((Own.lit_1 (base := w.heap.size + 1) (World.size_alloc _ _).symm (Nat.le_of_eq (World.size_alloc _ _).symm)).alloc _) (Ints.lit_1 (by first | rfl | (simp; done))) (by simp) (by first | (simp; done) | (simp; omega)) ?_; intro v2 w2 o2 b2 g2 k2; have K2 := Lib.hid (K0.out.below ((((Below.refl (w.heap.size + 1) _).alloc (by simp) _).alloc (by first | (simp; done) | (simp; omega)) _).trans b2) (Nat.lt_succ_self _)); have a2 : w2.cell? ⟨w.heap.size, 2, none⟩ = some (.string nm) := K2.out.cell 2)
    have b02 : Below (w.heap.size + 1) (w.alloc (.cells #[.int .i64 k, .slice A qs.length c, .string nm, .int .i64 p] 26)) w2 := (((Below.refl _ _).alloc (by simp) _).alloc (by first | (simp; done) | (simp; omega)) _).trans b2
    have B2 := Lib.hid ((B0.out _).trans (b02.mono (Nat.le_succ _)))
    have O2 := Lib.hid o2
    have hz2 := b02.size
    simp at hz2
    clear o2 b2 g2 k2 b02
    refine (l1Text_any nm _ (by omega)).mono ?_
    rintro e w3 ⟨v3, rfl, o3, b3⟩
    have O3 := Lib.hid o3.ints.zero
    have O23 := Lib.hid (O2.out.below b3)
    have B3 := Lib.hid (B2.out.trans (b3.mono B2.out.size))
    have K3 := Lib.hid (K2.out.kept b3)
    have hz3 := b3.size
    clear o3 b3 O2 K2 a2
    go_wp2_with (at_builtin; refine wp_ints rfl (.tmp 20) (.tmp 23) rfl rfl rfl O23.out O3.out (by rw [HNL.out]; simp; omega) (by omega) ?_; intro v4 w4 o4 b4 g4 k4; have K4 := Lib.hid (K3.out.below b4 (Nat.lt_succ_self _)); have a3 : w4.cell? ⟨w.heap.size, 3, none⟩ = some (.int .i64 p) := K4.out.cell 3)
    have O4 := Lib.hid o4
    have B4 := Lib.hid (B3.out.trans (b4.mono (Nat.le_succ _)))
    have hz4 := b4.size
    clear o4 b4 g4 k4 K3 O23 O3
    refine (l1Number_any p _ hp0 hp1).mono ?_
    rintro e w5 ⟨v5, rfl, o5, b5⟩
    have O5 := Lib.hid o5.ints.zero
    have O45 := Lib.hid (O4.out.below b5)
    have B5 := Lib.hid (B4.out.trans (b5.mono B4.out.size))
    have hz5 := b5.size
    clear o5 b5 O4
    go_wp2_with (at_builtin; refine wp_ints rfl (.tmp 25) (.tmp 28) rfl rfl rfl O45.out O5.out (by rw [List.length_append, HNL.out]; simp [num2]; omega) (by omega) ?_; intro v6 w6 o6 b6 g6 k6)
    go_ret
    exact ⟨_, rfl, by rw [E.out]; exact o6.more (Nat.le_succ _), B5.out.trans (b6.mono (Nat.le_succ _))⟩
end Go.Proofs.YtolbkdcnmkmncaaDoor
namespace Go.Proofs.YtolbkdcnmkmncaaDoor
open Go.RowKit

set_option maxRecDepth 100000 in
set_option maxHeartbeats 8000000 in
theorem addressBytes_any (k : Int) (q : Value) (nm : ByteArray) (p : Int) (qs : List Int) (w : World) (hq : Ints w 0 q qs) (hok : adOk k qs nm p = true) :
    Calls Tryd.prog 65 #[.agg #[.int .i64 k, q, .string nm, .int .i64 p]] w fun e w' => ∃ v, e = .returned v ∧ Own w' w.heap.size v (adB k qs nm p) ∧ Below w.heap.size w w' := by
  have HQ := Lib.hid hq
  obtain ⟨A, c, rfl, hc, hm, _⟩ := hq.open_
  have B0 : Hid (∀ cs, Below w.heap.size w (w.alloc (.cells cs 26))) := Lib.hid fun cs => (Below.refl _ _).alloc (Nat.le_refl _) _
  have K0 := Lib.hid (Blk.new w 26 #[.int .i64 k, .slice A qs.length c, .string nm, .int .i64 p])
  obtain ⟨hp0, hp1⟩ := adOk_port hok
  obtain ⟨hql, hnl⟩ := adOk_sizes hok
  have HNL := Lib.hid (numsOf_length nm)
  clear hq
  by_cases hk1 : k = 1
  · have E : Hid (adB k qs nm p = [k] ++ qs ++ num2 p) := Lib.hid (by rw [hk1, adB_quad]; rfl)
    have hk1' : (k == 1) = true := by simpa using hk1
    clear hok hk1
    go_enter Tryd.func65, Tryd.ntmps65
    go_wp2_with (at_builtin; refine wp_ints rfl (.tmp 10) (.tmp 12) rfl rfl rfl (Own.lit_1 (base := w.heap.size + 1) (World.size_alloc _ _).symm (Nat.le_of_eq (World.size_alloc _ _).symm)) ((HQ.out.alloc _).alloc _) (by simp; omega) (by simp) ?_; intro v2 w2 o2 b2 g2 k2; have K2 := Lib.hid (K0.out.below (((Below.refl (w.heap.size + 1) _).alloc (by simp) _).trans b2) (Nat.lt_succ_self _)); have a3 : w2.cell? ⟨w.heap.size, 3, none⟩ = some (.int .i64 p) := K2.out.cell 3)
    have b02 : Below (w.heap.size + 1) (w.alloc (.cells #[.int .i64 k, .slice A qs.length c, .string nm, .int .i64 p] 26)) w2 := ((Below.refl _ _).alloc (by simp) _).trans b2
    have B2 := Lib.hid ((B0.out _).trans (b02.mono (Nat.le_succ _)))
    have O2 := Lib.hid o2
    have hz2 := b02.size
    simp at hz2
    clear o2 b2 g2 k2 b02
    refine (numberBytes_any p _ hp0 hp1).mono ?_
    rintro e w3 ⟨v3, rfl, o3, b3⟩
    have O3 := Lib.hid o3.ints.zero
    have O23 := Lib.hid (O2.out.below b3)
    have B3 := Lib.hid (B2.out.trans (b3.mono B2.out.size))
    have hz3 := b3.size
    clear o3 b3 O2
    go_wp2_with (at_builtin; refine wp_ints rfl (.tmp 24) (.tmp 27) rfl rfl rfl O23.out O3.out (by simp [num2]; omega) (by omega) ?_; intro v4 w4 o4 b4 g4 k4)
    go_ret
    exact ⟨_, rfl, by rw [E.out]; exact o4.more (Nat.le_succ _), B3.out.trans (b4.mono (Nat.le_succ _))⟩
  · have E : Hid (adB k qs nm p = [k] ++ [(nm.size : Int)] ++ numsOf nm ++ num2 p) := Lib.hid (by rw [adB_name k hk1]; simp)
    have hk1' : (k == 1) = false := by simpa using hk1
    clear hok hk1
    go_enter Tryd.func65, Tryd.ntmps65
    go_wp2_with fail
    have c2 : ((w.alloc (.cells #[.int .i64 k, .slice A qs.length c, .string nm, .int .i64 p] 26)).alloc (.cells #[.int .i64 k] 3)).drew.cell? ⟨w.heap.size, 2, none⟩ = some (.string nm) := (K0.out.alloc _).cell 2
    have hzb : w.heap.size < ((w.alloc (.cells #[.int .i64 k, .slice A qs.length c, .string nm, .int .i64 p] 26)).alloc (.cells #[.int .i64 k] 3)).drew.heap.size := by show _ < (World.alloc _ _).heap.size; rw [World.size_alloc, World.size_alloc]; omega
    have HBB : Hid (Below w.heap.size w ((w.alloc (.cells #[.int .i64 k, .slice A qs.length c, .string nm, .int .i64 p] 26)).alloc (.cells #[.int .i64 k] 3)).drew) := Lib.hid (((B0.out _).alloc (by simp) _).drew)
    go_region_held3 (fun w' => w'.cell? ⟨w.heap.size, 2, none⟩ = some (.string nm) ∧ w.heap.size < w'.heap.size ∧ Below w.heap.size w w') (first | exact ⟨c2, hzb, HBB.out⟩ | exact one_belowB ‹_› b4 (Nat.le_refl _) | exact one_belowB ‹_› b3 (Nat.le_refl _) | exact one_alloc ‹_› _ | exact one_below ‹_› b2)
      (first
        | (go_at_call 97; refine (textBytes_any nm _ (by omega)).mono ?_; rintro e w2 ⟨x2, rfl, o2, b2⟩; obtain ⟨A2, d2, rfl, _, _, _⟩ := o2.form)
        | (refine step_ints (by rfl) (.tmp 14) (.tmp 18) (by rfl) (by rfl) (by rfl) (base := w.heap.size + 1) (v := .slice (some ⟨_, 0, none⟩) 1 1) (u := .slice (some ⟨_, 0, none⟩) 1 1) (zs := [k]) (ys := [(nm.size : Int)]) ?_ ?_ ?_ ?_ ?_; (repeat (first | ((with_reducible refine Own.lit_1 ?_ ?_); (first | rfl | (simp)); (simp)) | (with_reducible refine Own.drew ?_) | (with_reducible refine Own.alloc ?_ _))); (repeat (first | ((with_reducible refine Ints.lit_1 ?_); (first | rfl | (simp))) | (with_reducible refine Ints.drew ?_) | (with_reducible refine Ints.alloc ?_ _))); (simp); (show w.heap.size + 1 ≤ (World.alloc _ _).heap.size; rw [World.size_alloc, World.size_alloc, World.size_alloc]; omega); intro v3 w3 o3 b3 g3 k3; obtain ⟨A3, d3, rfl, _, _, _⟩ := o3.form)
        | (refine step_ints (by rfl) (.tmp 19) (.tmp 22) (by rfl) (by rfl) (by rfl) (base := w.heap.size + 1) (v := .slice A3 _ d3) (u := .slice A2 _ d2) (zs := [k] ++ [(nm.size : Int)]) (ys := numsOf nm) ?_ ?_ ?_ ?_ ?_; exact o3.below b2; exact o2.ints.zero; (rw [HNL.out]; simp; omega); (obtain ⟨_, hlt, _⟩ : w2.cell? ⟨w.heap.size, 2, none⟩ = some (.string nm) ∧ w.heap.size < w2.heap.size ∧ Below w.heap.size w w2 := by assumption); exact hlt; intro v4 w4 o4 b4 g4 k4))
    all_goals
      obtain ⟨_, hz4, bw4⟩ : w4.cell? ⟨w.heap.size, 2, none⟩ = some (.string nm) ∧ w.heap.size < w4.heap.size ∧ Below w.heap.size w w4 := by assumption
      have a3 : w4.cell? ⟨w.heap.size, 3, none⟩ = some (.int .i64 p) := by
        have K2 := Blk.below (show Blk (World.drew (World.alloc (World.alloc _ _) _)) _ _ _ from (K0.out.alloc (.cells #[.int .i64 k] 3)).alloc (.cells #[.int .i64 (nm.size : Int)] 3)) b3 (Nat.lt_succ_self _)
        exact ((K2.kept b2).below b4 (Nat.lt_succ_self _)).cell 3
      have O4 := Lib.hid o4
      have B4 := Lib.hid bw4
      clear o4 b4 g4 k4 o3 b3 g3 k3 o2 b2 bw4
      go_wp2_with fail
      refine (numberBytes_any p _ hp0 hp1).mono ?_
      rintro e w5 ⟨v5, rfl, o5, b5⟩
      have O5 := Lib.hid o5.ints.zero
      have O45 := Lib.hid (O4.out.below b5)
      have B5 := Lib.hid (B4.out.trans (b5.mono B4.out.size))
      have hz5 := b5.size
      clear o5 b5 O4
      go_wp2_with (at_builtin; refine wp_ints rfl (.tmp 24) (.tmp 27) rfl rfl rfl O45.out O5.out (by rw [List.length_append, HNL.out]; simp [num2]; omega) (by omega) ?_; intro v6 w6 o6 b6 g6 k6)
      go_ret
      exact ⟨_, rfl, by rw [E.out]; exact o6.more (Nat.le_succ _), B5.out.trans (b6.mono (Nat.le_succ _))⟩

set_option maxRecDepth 100000 in
set_option maxHeartbeats 2000000 in
theorem AddressBytes_any (k : Int) (q : Value) (nm : ByteArray) (p : Int) (qs : List Int) (w : World) (hq : Ints w 0 q qs) (hn : nm.size < 4294967281) :
    Calls Tryd.prog 30 #[.agg #[.int .i64 k, q, .string nm, .int .i64 p]] w fun e w' => Gave w (adL k qs nm p) (adOk k qs nm p) e w' := by
  have HQ := Lib.hid hq
  obtain ⟨A, c, rfl, hc, hm, _⟩ := hq.open_
  have B0 : Hid (∀ cs, Below w.heap.size w (w.alloc (.cells cs 26))) := Lib.hid fun cs => (Below.refl _ _).alloc (Nat.le_refl _) _
  have K0 := Lib.hid (Blk.new w 26 #[.int .i64 k, .slice A qs.length c, .string nm, .int .i64 p])
  clear hq
  go_enter Tryd.func30, Tryd.ntmps30
  go_wp2_with fail
  refine (impl_AddressValid_any k _ nm p qs _ (HQ.out.alloc _) hn).mono ?_
  rintro e w1 ⟨rfl, b1⟩
  have K1 := Lib.hid (K0.out.kept b1)
  have B1 := Lib.hid ((B0.out _).trans (b1.mono (by simp)))
  have I1 := Lib.hid ((HQ.out.alloc _).below b1)
  have a0 : w1.cell? ⟨w.heap.size, 0, none⟩ = some (.int .i64 k) := K1.out.cell 0
  have a1 : w1.cell? ⟨w.heap.size, 1, none⟩ = some (.slice A qs.length c) := K1.out.cell 1
  have a2 : w1.cell? ⟨w.heap.size, 2, none⟩ = some (.string nm) := K1.out.cell 2
  have a3 : w1.cell? ⟨w.heap.size, 3, none⟩ = some (.int .i64 p) := K1.out.cell 3
  clear b1
  cases hok : adOk k qs nm p
  · have E := Lib.hid (adL_not hok)
    have HOK := Lib.hid hok
    clear hok
    go_wp2_with fail
    go_ret2
    exact ⟨_, by rw [HOK.out]; rfl, by rw [E.out]; exact Own.nil_ _ _, B1.out⟩
  · have E := Lib.hid (adL_ok hok)
    have HOK := Lib.hid hok
    clear hok
    go_wp2_with fail
    refine (addressBytes_any k _ nm p qs _ I1.out HOK.out).mono ?_
    rintro e w2 ⟨v2, rfl, o2, b2⟩
    have O2 := Lib.hid o2
    have B2 := Lib.hid (B1.out.trans (b2.mono B1.out.size))
    have hs1 := B1.out.size
    clear o2 b2
    go_wp2_with fail
    go_ret2
    exact ⟨_, by rw [HOK.out]; rfl, by rw [E.out]; exact O2.out.more hs1, B2.out⟩
end Go.Proofs.YtolbkdcnmkmncaaDoor

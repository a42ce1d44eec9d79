/-
  The bytes of a valid address: addressBytes of the program and l3Bytes of the reference. Conditions: the address is valid; the quad reads as a list of integers.
-/
import Derived.Test.YtahlgdehfjjoeaaDoorAdOk
import Derived.Test.YtahlgdehfjjoeaaDoorNum
import Derived.Test.YtahlgdehfjjoeaaDoorTexts
import Derived.Deep.RegionHeld3
namespace Go.Proofs.YtahlgdehfjjoeaaDoor
open Go.RowKit

theorem one_alloc {w W : World} {B i : Nat} {x : Value} (h : W.cell? ⟨B, i, none⟩ = some x ∧ B < W.heap.size ∧ Below w.heap.size w W) (o : Obj) :
    (W.alloc o).cell? ⟨B, i, none⟩ = some x ∧ B < (W.alloc o).heap.size ∧ Below w.heap.size w (W.alloc o) := by
  obtain ⟨h0, h2, h3⟩ := h
  exact ⟨(World.cell?_alloc_lt W o ⟨B, i, none⟩ h2).trans h0, by simp; omega, h3.alloc h3.size o⟩
theorem one_below {w W W' : World} {B i : Nat} {x : Value} (h : W.cell? ⟨B, i, none⟩ = some x ∧ B < W.heap.size ∧ Below w.heap.size w W) (b : Below W.heap.size W W') :
    W'.cell? ⟨B, i, none⟩ = some x ∧ B < W'.heap.size ∧ Below w.heap.size w W' := by
  obtain ⟨h0, h2, h3⟩ := h
  exact ⟨(b.cell (p := ⟨B, i, none⟩) h2).trans h0, Nat.lt_of_lt_of_le h2 b.size, h3.trans (b.mono h3.size)⟩
theorem one_belowB {w W W' : World} {B i : Nat} {x : Value} (h : W.cell? ⟨B, i, none⟩ = some x ∧ B < W.heap.size ∧ Below w.heap.size w W) (b : Below (B + 1) W W') (hB : w.heap.size ≤ B) :
    W'.cell? ⟨B, i, none⟩ = some x ∧ B < W'.heap.size ∧ Below w.heap.size w W' := by
  obtain ⟨h0, h2, h3⟩ := h
  exact ⟨(b.cell (p := ⟨B, i, none⟩) (Nat.lt_succ_self B)).trans h0, Nat.lt_of_lt_of_le h2 b.size, h3.trans (b.mono (by omega))⟩
theorem Own.lit_1 {W : World} {x : Int} {g base : Nat} (hg : g = W.heap.size) (hb : base ≤ W.heap.size) : Own (W.alloc (.cells #[.int .i64 x] 3)) base (.slice (some ⟨g, 0, none⟩) 1 1) [x] := by
  subst hg
  exact Own.lit W [x] base hb (by simp)
/-- A row of another, older block has grown. -/
theorem Own.apart {w w' : World} {base b n c : Nat} {v : Value} {zs : List Int} (h : Own w base v zs) (hg : w.grownBy w' (Value.slice (some ⟨b, 0, none⟩) n c).ownBlock) (hb : b < base) : Own w' base v zs := by
  refine h.keep hg ?_
  cases hv : v.ownBlock with
  | none => exact .inl rfl
  | some k =>
    right
    intro he
    have h1 := (World.ownsRow.lt h k hv).1
    have : k = b := by simpa [Value.ownBlock] using he
    omega

set_option maxRecDepth 100000 in
set_option maxHeartbeats 4000000 in
theorem l3Bytes_any (k : Int) (q : Value) (nm : ByteArray) (p : Int) (qs : List Int) (w : World) (hq : Ints w 0 q qs) (hok : adOk k qs nm p = true) :
    Calls Tryd.prog 74 #[.agg #[.int .i64 k, q, .string nm, .int .i64 p]] w fun e w' => ∃ v, e = .returned v ∧ Own w' w.heap.size v (adB k qs nm p) ∧ Below w.heap.size w w' := by
  have HQ := Lib.hid hq
  obtain ⟨A, c, rfl, hc, hm, _⟩ := hq.open_
  have B0 : Hid (∀ cs, Below w.heap.size w (w.alloc (.cells cs 25))) := Lib.hid fun cs => (Below.refl _ _).alloc (Nat.le_refl _) _
  have K0 := Lib.hid (Blk.new w 25 #[.int .i64 k, .slice A qs.length c, .string nm, .int .i64 p])
  obtain ⟨hp0, hp1⟩ := adOk_port hok
  obtain ⟨hql, hnl⟩ := adOk_sizes hok
  have HNL := Lib.hid (numsOf_length nm)
  clear hq
  by_cases hk1 : k = 1
  · have E : Hid (adB k qs nm p = [k] ++ qs ++ num2 p) := Lib.hid (by rw [hk1, adB_quad]; rfl)
    have hk1' : (k == 1) = true := by simpa using hk1
    clear hok hk1
    go_enter Tryd.func74, Tryd.ntmps74
    go_wp2_with (at_builtin; refine wp_ints rfl (.tmp 10) (.tmp 12) rfl rfl rfl (Own.lit_1 (base := w.heap.size + 1) (World.size_alloc _ _).symm (Nat.le_of_eq (World.size_alloc _ _).symm)) ((HQ.out.alloc _).alloc _) (by simp; omega) (by simp) ?_; intro v2 w2 o2 b2 g2 k2; have K2 := Lib.hid (K0.out.below (((Below.refl (w.heap.size + 1) _).alloc (by simp) _).trans b2) (Nat.lt_succ_self _)); have a3 : w2.cell? ⟨w.heap.size, 3, none⟩ = some (.int .i64 p) := K2.out.cell 3)
    have b02 : Below (w.heap.size + 1) (w.alloc (.cells #[.int .i64 k, .slice A qs.length c, .string nm, .int .i64 p] 25)) w2 := ((Below.refl _ _).alloc (by simp) _).trans b2
    have B2 := Lib.hid ((B0.out _).trans (b02.mono (Nat.le_succ _)))
    have O2 := Lib.hid o2
    have hz2 := b02.size
    simp at hz2
    clear o2 b2 g2 k2 b02
    refine (l1Number_any p _ hp0 hp1).mono ?_
    rintro e w3 ⟨v3, rfl, o3, b3⟩
    have O3 := Lib.hid o3.ints.zero
    have O23 := Lib.hid (O2.out.below b3)
    have B3 := Lib.hid (B2.out.trans (b3.mono B2.out.size))
    have hz3 := b3.size
    clear o3 b3 O2
    go_wp2_with (at_builtin; refine wp_ints rfl (.tmp 25) (.tmp 28) rfl rfl rfl O23.out O3.out (by simp [num2]; omega) (by omega) ?_; intro v4 w4 o4 b4 g4 k4)
    go_ret
    exact ⟨_, rfl, by rw [E.out]; exact o4.more (Nat.le_succ _), B3.out.trans (b4.mono (Nat.le_succ _))⟩
  · have E : Hid (adB k qs nm p = [k] ++ [(nm.size : Int)] ++ numsOf nm ++ num2 p) := Lib.hid (by rw [adB_name k hk1]; simp)
    have hk1' : (k == 1) = false := by simpa using hk1
    clear hok hk1
    go_enter Tryd.func74, Tryd.ntmps74
    go_wp2_with (at_builtin; refine wp_ints rfl (.tmp 14) (.tmp 18) rfl rfl rfl ((Own.lit_1 (base := w.heap.size + 1) (World.size_alloc _ _).symm (Nat.le_of_eq (World.size_alloc _ _).symm)).alloc _) (Ints.lit_1 (by first | rfl | (simp; done))) (by simp) (by first | (simp; done) | (simp; omega)) ?_; intro v2 w2 o2 b2 g2 k2; have K2 := Lib.hid (K0.out.below ((((Below.refl (w.heap.size + 1) _).alloc (by simp) _).alloc (by first | (simp; done) | (simp; omega)) _).trans b2) (Nat.lt_succ_self _)); have a2 : w2.cell? ⟨w.heap.size, 2, none⟩ = some (.string nm) := K2.out.cell 2)
    have b02 : Below (w.heap.size + 1) (w.alloc (.cells #[.int .i64 k, .slice A qs.length c, .string nm, .int .i64 p] 25)) w2 := (((Below.refl _ _).alloc (by simp) _).alloc (by first | (simp; done) | (simp; omega)) _).trans b2
    have B2 := Lib.hid ((B0.out _).trans (b02.mono (Nat.le_succ _)))
    have O2 := Lib.hid o2
    have hz2 := b02.size
    simp at hz2
    clear o2 b2 g2 k2 b02
    refine (l1Text_any nm _ (by omega)).mono ?_
    rintro e w3 ⟨v3, rfl, o3, b3⟩
    have O3 := Lib.hid o3.ints.zero
    have O23 := Lib.hid (O2.out.below b3)
    have B3 := Lib.hid (B2.out.trans (b3.mono B2.out.size))
    have K3 := Lib.hid (K2.out.kept b3)
    have hz3 := b3.size
    clear o3 b3 O2 K2 a2
    go_wp2_with (at_builtin; refine wp_ints rfl (.tmp 20) (.tmp 23) rfl rfl rfl O23.out O3.out (by rw [HNL.out]; simp; omega) (by omega) ?_; intro v4 w4 o4 b4 g4 k4; have K4 := Lib.hid (K3.out.below b4 (Nat.lt_succ_self _)); have a3 : w4.cell? ⟨w.heap.size, 3, none⟩ = some (.int .i64 p) := K4.out.cell 3)
    have O4 := Lib.hid o4
    have B4 := Lib.hid (B3.out.trans (b4.mono (Nat.le_succ _)))
    have hz4 := b4.size
    clear o4 b4 g4 k4 K3 O23 O3
    refine (l1Number_any p _ hp0 hp1).mono ?_
    rintro e w5 ⟨v5, rfl, o5, b5⟩
    have O5 := Lib.hid o5.ints.zero
    have O45 := Lib.hid (O4.out.below b5)
    have B5 := Lib.hid (B4.out.trans (b5.mono B4.out.size))
    have hz5 := b5.size
    clear o5 b5 O4
    go_wp2_with (at_builtin; refine wp_ints rfl (.tmp 25) (.tmp 28) rfl rfl rfl O45.out O5.out (by rw [List.length_append, HNL.out]; simp [num2]; omega) (by omega) ?_; intro v6 w6 o6 b6 g6 k6)
    go_ret
    exact ⟨_, rfl, by rw [E.out]; exact o6.more (Nat.le_succ _), B5.out.trans (b6.mono (Nat.le_succ _))⟩
end Go.Proofs.YtahlgdehfjjoeaaDoor

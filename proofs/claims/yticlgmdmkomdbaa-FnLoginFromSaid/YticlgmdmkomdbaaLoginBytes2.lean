/-
  The reference's LoginBytes returns the same bytes as the program's, in memory of its own, or fails alike. Conditions: the strings are strings of the model.
-/
import Derived.Test.YticlgmdmkomdbaaLoginBytes
namespace Go.Proofs.Yticlgmdmkomdbaa
open Go.RowKit

theorem two_belowB {w W W' : World} {B : Nat} {x y : Value} (h : W.cell? ⟨B, 0, none⟩ = some x ∧ W.cell? ⟨B, 1, none⟩ = some y ∧ B < W.heap.size ∧ Below w.heap.size w W) (b : Below (B + 1) W W') (hB : w.heap.size ≤ B) :
    W'.cell? ⟨B, 0, none⟩ = some x ∧ W'.cell? ⟨B, 1, none⟩ = some y ∧ B < W'.heap.size ∧ Below w.heap.size w W' := by
  obtain ⟨h0, h1, h2, h3⟩ := h
  exact ⟨(b.cell (p := ⟨B, 0, none⟩) (Nat.lt_succ_self B)).trans h0, (b.cell (p := ⟨B, 1, none⟩) (Nat.lt_succ_self B)).trans h1, Nat.lt_of_lt_of_le h2 b.size, h3.trans (b.mono (by omega))⟩
theorem Own.lit_2 {W : World} {x y : Int} {g base : Nat} (hg : g = W.heap.size) (hb : base ≤ W.heap.size) : Own (W.alloc (.cells #[.int .i64 x, .int .i64 y] 3)) base (.slice (some ⟨g, 0, none⟩) 2 2) [x, y] := by
  subst hg
  exact Own.lit W [x, y] base hb (by simp)

set_option maxRecDepth 100000 in
set_option maxHeartbeats 4000000 in
theorem spec_LoginBytes_any (u v : ByteArray) (w : World) (hu : u.size ≤ maxLen) (hv : v.size ≤ maxLen) :
    Calls Try.prog 49 #[.agg #[.string u, .string v]] w fun e w' => Gave w (loginL u v) (loginOk u v) e w' := by
  have HU := Lib.hid hu
  have HV := Lib.hid hv
  clear hu hv
  have B0 : Hid (Below w.heap.size w (w.alloc (.cells #[.string u, .string v] 31))) := Lib.hid ((Below.refl _ _).alloc (Nat.le_refl _) _)
  cases h : loginOk u v
  · have E : Hid (loginL u v = []) := Lib.hid (loginL_not h)
    go_enter Try.func49, Try.ntmps49
    go_wp2_with fail
    refine (l11Ok_any u v _ HU.out HV.out).mono ?_
    rintro e w1 ⟨rfl, b1⟩
    have B1 := Lib.hid (B0.out.trans (b1.mono (by simp)))
    rw [h]
    clear b1 h
    go_wp2_with fail
    go_ret2
    exact ⟨_, rfl, by rw [E.out]; exact Own.lit w1 [] _ B1.out.size (by simp), B1.out.alloc B1.out.size _⟩
  · have E : Hid (loginL u v = loginB u v) := Lib.hid (loginL_ok h)
    have hp := loginOk_parts h
    go_enter Try.func49, Try.ntmps49
    go_wp2_with fail
    refine (l11Ok_any u v _ HU.out HV.out).mono ?_
    rintro e w1 ⟨rfl, b1⟩
    have c0 : w1.cell? ⟨w.heap.size, 0, none⟩ = some (.string u) := (b1.cell (p := ⟨w.heap.size, 0, none⟩) (by simp)).trans (by simp [go_sem])
    have c1 : w1.cell? ⟨w.heap.size, 1, none⟩ = some (.string v) := (b1.cell (p := ⟨w.heap.size, 1, none⟩) (by simp)).trans (by simp [go_sem])
    have B1 := Lib.hid (B0.out.trans (b1.mono (by simp)))
    have hz := b1.size
    simp at hz
    have HB : Hid (Below w.heap.size w w1.drew) := Lib.hid B1.out.drew
    have HLu := Lib.hid (numsOf_length u)
    have HLv := Lib.hid (numsOf_length v)
    rw [h]
    clear b1 h
    go_wp2_with fail
    go_region_held3 (fun w' => w'.cell? ⟨w.heap.size, 0, none⟩ = some (.string u) ∧ w'.cell? ⟨w.heap.size, 1, none⟩ = some (.string v) ∧ w.heap.size < w'.heap.size ∧ Below w.heap.size w w') (first | exact ⟨c0, c1, hz, HB.out⟩ | exact two_belowB ‹_› b3 (Nat.le_refl _) | exact two_alloc ‹_› _ | exact two_below ‹_› b2)
      (first
        | (go_at_call 81; refine (l1Text_any u _ (by omega)).mono ?_; rintro e w2 ⟨x2, rfl, o2, b2⟩; obtain ⟨A2, d2, rfl, _, _, _⟩ := o2.form)
        | (refine step_ints (by rfl) (.tmp 12) (.tmp 15) (by rfl) (by rfl) (by rfl) (base := w.heap.size + 1) (v := .slice (some ⟨_, 0, none⟩) 2 2) (u := .slice A2 (numsOf u).length d2) (zs := [1, (u.size : Int)]) (ys := numsOf u) ?_ ?_ ?_ ?_ ?_; (have s2 := b2.size; simp at s2; repeat (first | (with_reducible refine Own.lit_2 ?_ ?_; (with_reducible rfl); omega) | (with_reducible refine Own.drew ?_) | (with_reducible refine Own.alloc ?_ _) | (with_reducible refine Own.below ?_ b2))); (repeat (first | (with_reducible exact o2.ints.zero) | (with_reducible refine Ints.alloc ?_ _) | (with_reducible refine Ints.drew ?_))); (rw [HLu.out]; simp; omega); (have s2 := b2.size; simp at s2; (first | omega | (simp; omega))); intro v3 w3 o3 b3 g3 k3))
    all_goals
      obtain ⟨k0, k1, k2, k4⟩ : w3.cell? ⟨w.heap.size, 0, none⟩ = some (.string u) ∧ w3.cell? ⟨w.heap.size, 1, none⟩ = some (.string v) ∧ w.heap.size < w3.heap.size ∧ Below w.heap.size w w3 := by assumption
      have O3 := Lib.hid o3
      have K4 := Lib.hid k4
      have hl3 : ([1, (u.size : Int)] ++ numsOf u).length = 2 + u.size := by simp [HLu.out]; omega
      have HL3 := Lib.hid hl3
      clear o3 b3 g3 k3 b2 o2 k4 hl3 c0 c1 HB B1 hz
      go_wp2_with (at_builtin; refine wp_ints rfl (.tmp 17) (.tmp 21) rfl rfl rfl (O3.out.alloc _) (lit1 _ _) (by rw [HL3.out]; simp; omega) (by simp; omega) ?_; intro v4 w4 o4 b4 g4 k4; obtain ⟨l0, l1, l2, l3⟩ := two_belowB (two_alloc ⟨k0, k1, k2, K4.out⟩ _) b4 (Nat.le_refl _); clear k0 k1 b4 g4 k4 l0)
      refine (l1Text_any v _ (by omega)).mono ?_
      rintro e w5 ⟨x5, rfl, o5, b5⟩
      have O4 := Lib.hid (o4.below b5)
      have O5 := Lib.hid o5.ints.zero
      have B5 := Lib.hid (l3.trans (b5.mono l3.size))
      have hs5 := b5.size
      clear o4 o5 b5 l1 l3
      have hl5 : ([1, (u.size : Int)] ++ numsOf u ++ [(v.size : Int)]).length + (numsOf v).length ≤ 1099511627776 := by rw [List.length_append, HL3.out, HLv.out]; simp; omega
      go_wp2_with (at_builtin; refine wp_ints rfl (.tmp 23) (.tmp 26) rfl rfl rfl O4.out O5.out hl5 (by omega) ?_; intro v6 w6 o6 b6 g6 k6)
      go_ret2
      refine ⟨_, rfl, ?_, B5.out.trans (b6.mono (by omega))⟩
      have e : loginL u v = [1, (u.size : Int)] ++ numsOf u ++ [(v.size : Int)] ++ numsOf v := by rw [E.out]; simp [loginB]
      rw [e]
      exact o6.more (by omega)
end Go.Proofs.Yticlgmdmkomdbaa

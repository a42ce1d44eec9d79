/-
  LoginBytes of the program and of the reference return the same bytes, in memory of their own, or fail alike. Conditions: the strings are strings of the model.
-/
import Derived.Test.YticlgmdmkomdbaaLoginOk
import Derived.Test.YticlgmdmkomdbaaTexts
import Derived.Test.YticlgmdmkomdbaaConcat
import Derived.Test.YticlgmdmkomdbaaHello
import Derived.Deep.RegionHeld3
namespace Go.Proofs.Yticlgmdmkomdbaa
open Go.RowKit

theorem Ints.lit_ {W : World} {zs : List Int} {g n : Nat} (hg : g = W.heap.size) (hn : zs.length = n) (hm : n ≤ 1000) : Ints (W.alloc (.cells (iv zs).toArray 3)) 0 (.slice (some ⟨g, 0, none⟩) n n) zs := by
  subst hg hn
  exact (Own.lit W zs 0 (Nat.zero_le _) (by omega)).ints
theorem Ints.lit_1 {W : World} {x : Int} {g : Nat} (hg : g = W.heap.size) : Ints (W.alloc (.cells #[.int .i64 x] 3)) 0 (.slice (some ⟨g, 0, none⟩) 1 1) [x] := Ints.lit_ hg rfl (by omega)
theorem Ints.lit_2 {W : World} {x y : Int} {g : Nat} (hg : g = W.heap.size) : Ints (W.alloc (.cells #[.int .i64 x, .int .i64 y] 3)) 0 (.slice (some ⟨g, 0, none⟩) 2 2) [x, y] := Ints.lit_ hg rfl (by omega)
theorem rows4 {W : World} {a b c d : Value} {la lb lc ld : List Int} {g : Nat} (hg : g = W.heap.size) (ha : Ints W 0 a la) (hb : Ints W 0 b lb) (hc : Ints W 0 c lc) (hd : Ints W 0 d ld) :
    Rows2 (W.alloc (.cells #[a, b, c, d] 22)) (.slice (some ⟨g, 0, none⟩) 4 4) [la, lb, lc, ld] := by
  subst hg
  refine ⟨[a, b, c, d], ⟨rfl, some ⟨W.heap.size, 0, none⟩, 4, rfl, Nat.le_refl _, by unfold maxLen; simp, .inr ⟨W.heap.size, 0, rfl, Nat.zero_le _, #[a, b, c, d], heap_alloc_new W _, fun j u hu => by simpa using hu⟩⟩, ?_⟩
  intro j hj
  match j, hj with
  | 0, _ => exact ⟨a, rfl, ha.alloc _⟩
  | 1, _ => exact ⟨b, rfl, hb.alloc _⟩
  | 2, _ => exact ⟨c, rfl, hc.alloc _⟩
  | 3, _ => exact ⟨d, rfl, hd.alloc _⟩

theorem two_alloc {w W : World} {B : Nat} {x y : Value} (h : W.cell? ⟨B, 0, none⟩ = some x ∧ W.cell? ⟨B, 1, none⟩ = some y ∧ B < W.heap.size ∧ Below w.heap.size w W) (o : Obj) :
    (W.alloc o).cell? ⟨B, 0, none⟩ = some x ∧ (W.alloc o).cell? ⟨B, 1, none⟩ = some y ∧ B < (W.alloc o).heap.size ∧ Below w.heap.size w (W.alloc o) := by
  obtain ⟨h0, h1, h2, h3⟩ := h
  exact ⟨(World.cell?_alloc_lt W o ⟨B, 0, none⟩ h2).trans h0, (World.cell?_alloc_lt W o ⟨B, 1, none⟩ h2).trans h1, by simp; omega, h3.alloc h3.size o⟩
theorem two_below {w W W' : World} {B : Nat} {x y : Value} (h : W.cell? ⟨B, 0, none⟩ = some x ∧ W.cell? ⟨B, 1, none⟩ = some y ∧ B < W.heap.size ∧ Below w.heap.size w W) (b : Below W.heap.size W W') :
    W'.cell? ⟨B, 0, none⟩ = some x ∧ W'.cell? ⟨B, 1, none⟩ = some y ∧ B < W'.heap.size ∧ Below w.heap.size w W' := by
  obtain ⟨h0, h1, h2, h3⟩ := h
  exact ⟨(b.cell (p := ⟨B, 0, none⟩) h2).trans h0, (b.cell (p := ⟨B, 1, none⟩) h2).trans h1, Nat.lt_of_lt_of_le h2 b.size, h3.trans (b.mono h3.size)⟩
theorem login_flat (u v : ByteArray) : [[1, (u.size : Int)], numsOf u, [(v.size : Int)], numsOf v].flatten = loginB u v := by simp [loginB]

set_option maxRecDepth 100000 in
set_option maxHeartbeats 4000000 in
theorem impl_LoginBytes_any (u v : ByteArray) (w : World) (hu : u.size ≤ maxLen) (hv : v.size ≤ maxLen) :
    Calls Try.prog 48 #[.agg #[.string u, .string v]] w fun e w' => Gave w (loginL u v) (loginOk u v) e w' := by
  have HU := Lib.hid hu
  have HV := Lib.hid hv
  clear hu hv
  have B0 : Hid (Below w.heap.size w (w.alloc (.cells #[.string u, .string v] 31))) := Lib.hid ((Below.refl _ _).alloc (Nat.le_refl _) _)
  cases h : loginOk u v
  · have E : Hid (loginL u v = []) := Lib.hid (loginL_not h)
    go_enter Try.func48, Try.ntmps48
    go_wp2_with fail
    refine (isLogin_any u v _ HU.out HV.out).mono ?_
    rintro e w1 ⟨rfl, b1⟩
    have B1 := Lib.hid (B0.out.trans (b1.mono (by simp)))
    rw [h]
    clear b1 h
    go_wp2_with fail
    go_ret2
    exact ⟨_, rfl, by rw [E.out]; exact Own.nil_ _ _, B1.out⟩
  · have E : Hid (loginL u v = loginB u v) := Lib.hid (loginL_ok h)
    have hp := loginOk_parts h
    go_enter Try.func48, Try.ntmps48
    go_wp2_with fail
    refine (isLogin_any u v _ HU.out HV.out).mono ?_
    rintro e w1 ⟨rfl, b1⟩
    have c0 : w1.cell? ⟨w.heap.size, 0, none⟩ = some (.string u) := (b1.cell (p := ⟨w.heap.size, 0, none⟩) (by simp)).trans (by simp [go_sem])
    have c1 : w1.cell? ⟨w.heap.size, 1, none⟩ = some (.string v) := (b1.cell (p := ⟨w.heap.size, 1, none⟩) (by simp)).trans (by simp [go_sem])
    have B1 := Lib.hid (B0.out.trans (b1.mono (by simp)))
    have hz := b1.size
    simp at hz
    rw [h]
    clear b1 h
    go_wp2_with fail
    have HB : Hid (Below w.heap.size w w1.drew) := Lib.hid B1.out.drew
    have HL : Hid ([[1, (u.size : Int)], numsOf u, [(v.size : Int)], numsOf v].flatten.length ≤ 1099511627776) := Lib.hid (by rw [login_flat, loginB_length]; omega)
    go_region_held3 (fun w' => w'.cell? ⟨w.heap.size, 0, none⟩ = some (.string u) ∧ w'.cell? ⟨w.heap.size, 1, none⟩ = some (.string v) ∧ w.heap.size < w'.heap.size ∧ Below w.heap.size w w') (first | exact ⟨c0, c1, hz, HB.out⟩ | exact two_below ‹_› b4 | exact two_alloc ‹_› _ | exact two_below ‹_› b2 | exact two_below ‹_› b3)
      (first
        | (go_at_call 79; refine (Concat_any _ [[1, (u.size : Int)], numsOf u, [(v.size : Int)], numsOf v] _ (rows4 ?_ ?_ ?_ ?_ ?_) HL.out).mono ?_; (simp only [World.size_alloc]; try rfl); (repeat (first | (with_reducible exact o2.ints.zero) | (with_reducible exact o3.ints.zero) | (with_reducible refine Ints.lit_1 ?_; (simp only [World.size_alloc]; try rfl)) | (with_reducible refine Ints.lit_2 ?_; (simp only [World.size_alloc]; try rfl)) | (with_reducible refine Ints.drew ?_) | (with_reducible refine Ints.alloc ?_ _) | (with_reducible refine Ints.below ?_ b3) | (with_reducible refine Ints.below ?_ b2))); rintro e w4 ⟨x4, rfl, o4, b4⟩)
        | (go_at_call_of 80 (Value.string u); refine (textBytes_any u _ (by omega)).mono ?_; rintro e w2 ⟨x2, rfl, o2, b2⟩; obtain ⟨A2, d2, rfl, _, _, _⟩ := o2.form)
        | (go_at_call_of 80 (Value.string v); refine (textBytes_any v _ (by omega)).mono ?_; rintro e w3 ⟨x3, rfl, o3, b3⟩; obtain ⟨A3, d3, rfl, _, _, _⟩ := o3.form))
    all_goals
      obtain ⟨_, _, _, hbw⟩ : w4.cell? ⟨w.heap.size, 0, none⟩ = some (.string u) ∧ w4.cell? ⟨w.heap.size, 1, none⟩ = some (.string v) ∧ w.heap.size < w4.heap.size ∧ Below w.heap.size w w4 := by assumption
      go_wp2_with fail
      go_ret2
      refine ⟨_, rfl, ?_, hbw⟩
      rw [E.out, ← login_flat]
      refine o4.more ?_
      have s1 := B1.out.size
      have s2 := b2.size
      have s3 := b3.size
      simp at s2 s3 ⊢
      omega
end Go.Proofs.Yticlgmdmkomdbaa

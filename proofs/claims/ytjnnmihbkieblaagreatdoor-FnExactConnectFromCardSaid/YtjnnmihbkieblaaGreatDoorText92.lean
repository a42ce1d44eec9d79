/-
  The drawn change of a text (l92Text): some short text; the reader has gone on. Conditions: the text is short, the reader's counter is small.
-/
import Derived.Test.YtjnnmihbkieblaaGreatDoorDrawAd
import Derived.Test.YtjnnmihbkieblaaGreatDoorAnsT
import Derived.Deep.RegionHeld3
import Derived.BigQuiet
namespace Go.Proofs.YtjnnmihbkieblaaGreatDoor
open Go.RowKit

/-- Behind a drawn change of a text. -/
def Drew92 (w : World) (hi g p m : Nat) (e : Ending) (w' : World) : Prop := ∃ t p', e = .returned (.string t) ∧ t.size ≤ m ∧ p' ≤ p + 3 ∧ Rd6 w' hi g p' ∧ w.grownBy w' (some g)
def chg : List ByteArray := [⟨#[120]⟩, ⟨#[32]⟩, ⟨#[48]⟩]
theorem cut92 {z : Nat} {x : Int} (hx : PickOk (z : Int) x) (hz : 0 < z) : ∃ j : Nat, x = j ∧ j < z := ⟨x.toNat, by have := hx.1; have := hx.2; omega, by have := hx.1; have := hx.2; omega⟩

set_option maxRecDepth 100000 in
set_option maxHeartbeats 4000000 in
theorem l92Text_any (hi g p : Nat) (s : ByteArray) (w : World) (hr : Rd6 w hi g p) (hp : p ≤ 900000) (hs : s.size ≤ 1000) :
    Calls Tryz.prog 34 #[.pointer (some ⟨g, 0, none⟩), .string s] w fun e w' => Drew92 w hi g p 1010 e w' := by
  have hhi := hr.1
  have HR := Lib.hid hr
  clear hr
  obtain ⟨z, hz⟩ : ∃ z, s.size = z := ⟨_, rfl⟩
  rw [hz] at hs
  have HZ := Lib.hid hz
  by_cases h0 : z = 0
  · have he : s = ⟨#[]⟩ := by
      have h1 : s.data.size = 0 := by rw [← h0, ← hz]; rfl
      apply ByteArray.ext
      exact Array.eq_empty_of_size_eq_zero h1
    clear HZ hz
    subst he
    go_enter Tryz.func34, Tryz.ntmps34
    go_wp2_with fail
    go_ret
    exact ⟨_, p, rfl, by decide, by omega, HR.out, World.grownBy.refl w _⟩
  have hne : s.toList.isEmpty = false := not_none (by omega)
  go_enter Tryz.func34, Tryz.ntmps34
  go_wp2_with fail
  refine (pick_any hi g p (z : Int) _ HR.out (by omega) (by omega)).mono ?_
  rintro e w1 ⟨x, rfl, hx, r1, g1⟩
  obtain ⟨k, rfl, hk⟩ := cut92 hx (by omega)
  have R1 := Lib.hid r1
  have G1 := Lib.hid g1
  clear r1 g1 hx
  go_wp2_with fail
  refine (pick_any hi g (p + 1) 6 _ R1.out (by omega) (by omega)).mono ?_
  rintro e w2 ⟨x, rfl, _, r2, g2⟩
  have R2 := Lib.hid r2
  have G2 := Lib.hid (only_trans G1.out g2)
  clear r2 g2 R1 G1
  by_cases hx0 : x = 0
  · subst hx0
    have hki : (k : Int) ≤ (z : Int) := by omega
    have hk1 : (k : Int) + 1 ≤ (z : Int) := by omega
    have hk2 : IntKind.i64.wrap ((k : Int) + 1) = (k : Int) + 1 := by rw [IntKind.wrap_i64]; omega
    have hk3 : (0 : Int) ≤ (k : Int) + 1 := by omega
    have hk4 : ((k : Int) + 1).toNat = k + 1 := by omega
    obtain ⟨u, hu⟩ : ∃ u, s.extract 0 k = u := ⟨_, rfl⟩
    obtain ⟨v, hv⟩ : ∃ v, s.extract (k + 1) z = v := ⟨_, rfl⟩
    obtain ⟨zu, hzu⟩ : ∃ zu, u.size = zu := ⟨_, rfl⟩
    obtain ⟨zv, hzv⟩ : ∃ zv, v.size = zv := ⟨_, rfl⟩
    have su : zu ≤ 1000 := by rw [← hzu, ← hu, ByteArray.size_extract]; omega
    have sv : zv ≤ 1000 := by rw [← hzv, ← hv, ByteArray.size_extract]; omega
    have SUV : Hid (u.size + v.size ≤ 1000) := Lib.hid (by rw [← hu, ← hv, ByteArray.size_extract, ByteArray.size_extract]; omega)
    have SA : Hid (∃ p', p' ≤ p + 3 ∧ Rd6 w2.drew hi g p' ∧ w.grownBy w2.drew (some g)) := Lib.hid ⟨p + 1 + 1, by omega, R2.out, only_drew G2.out⟩
    have SB : Hid (∃ p', p' ≤ p + 3 ∧ Rd6 ((w2.alloc (.cells #[.string ⟨#[120]⟩, .string ⟨#[32]⟩, .string ⟨#[48]⟩] 9)).drew) hi g p' ∧ w.grownBy ((w2.alloc (.cells #[.string ⟨#[120]⟩, .string ⟨#[32]⟩, .string ⟨#[48]⟩] 9)).drew) (some g)) := Lib.hid ⟨p + 1 + 1, by omega, R2.out.alloc _, only_drew (only_alloc G2.out _)⟩
    have QO : Hid (Calls Tryz.prog 54 #[.pointer (some ⟨g, 0, none⟩), .slice (some ⟨w2.heap.size, 0, none⟩) 3 3] ((w2.alloc (.cells #[.string ⟨#[120]⟩, .string ⟨#[32]⟩, .string ⟨#[48]⟩] 9)).drew) fun e w' => DrewStr ((w2.alloc (.cells #[.string ⟨#[120]⟩, .string ⟨#[32]⟩, .string ⟨#[48]⟩] 9)).drew) hi g (p + 1 + 1) 1 e w') := Lib.hid (of_any hi g (p + 1 + 1) _ 3 3 1 chg _ (R2.out.alloc _) (by omega) (strs_at (ss := chg) rfl) rfl (by omega) (by omega) (by decide))
    have hk0 : (0 : Int) ≤ (k : Int) := by omega
    go_wp2_with fail
    go_region_held3 (fun W => ∃ p', p' ≤ p + 3 ∧ Rd6 W hi g p' ∧ w.grownBy W (some g))
      (first | with_reducible exact S4.out | with_reducible exact SB.out | with_reducible exact SA.out)
      (first | (go_at_call 54; go_loud (refine QO.out.mono ?_); go_loud (rintro e w4 ⟨s1, rfl, hs1, r4, g4⟩); have S4 : Hid (∃ p', p' ≤ p + 3 ∧ Rd6 w4 hi g p' ∧ w.grownBy w4 (some g)) := Lib.hid ⟨p + 1 + 1 + 1, Nat.le_refl _, r4, only_trans (only_drew (only_alloc G2.out _)) g4⟩; obtain ⟨z1, hz1⟩ : ∃ z1, s1.size = z1 := ⟨_, rfl⟩; have sz1 : z1 ≤ 1 := Nat.le_trans (Nat.le_of_eq hz1.symm) hs1; have n0 : (9223372036854775807 < zu + z1) = False := eq_false (by omega); have n1 : (9223372036854775807 < zu + z1 + zv) = False := eq_false (by omega)))
    all_goals
      rename_i hS
      obtain ⟨p3, hp3, r3, g3⟩ := hS
      have R3 := Lib.hid r3
      have G3 := Lib.hid g3
      have HS1 := Lib.hid hs1
      clear r3 g3 S4
      go_wp2_with fail
      go_ret
      exact ⟨_, p3, rfl, by have h1 := SUV.out; have h2 := HS1.out; rw [ByteArray.size_append, ByteArray.size_append]; omega, hp3, R3.out, G3.out⟩
  have e0 : (x == 0) = false := by simpa using hx0
  by_cases hx1 : x = 1
  · subst hx1
    have hki : (k : Int) ≤ (z : Int) := by omega
    clear hx0
    go_wp2_with fail
    go_ret
    exact ⟨_, p + 1 + 1, rfl, by have := HZ.out; simp; omega, by omega, R2.out, G2.out⟩
  have e1 : (x == 1) = false := by simpa using hx1
  by_cases hx2 : x = 2
  · subst hx2
    have n0 : (9223372036854775807 < z + 4) = False := eq_false (by omega)
    clear hx0 hx1
    go_wp2_with fail
    go_ret
    exact ⟨_, p + 1 + 1, rfl, by have := HZ.out; have h4 : (⟨#[109, 111, 114, 101]⟩ : ByteArray).size = 4 := rfl; rw [ByteArray.size_append, h4]; omega, by omega, R2.out, G2.out⟩
  have e2 : (x == 2) = false := by simpa using hx2
  clear hx0 hx1 hx2
  go_wp2_with fail
  go_ret
  exact ⟨_, p + 1 + 1, rfl, by have := HZ.out; omega, by omega, R2.out, G2.out⟩
end Go.Proofs.YtjnnmihbkieblaaGreatDoor

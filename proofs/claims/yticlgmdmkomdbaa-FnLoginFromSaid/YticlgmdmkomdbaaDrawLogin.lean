/-
  The drawn login: two short texts. Conditions: the reader's counter is small.
-/
import Derived.Test.YticlgmdmkomdbaaBlk
import Derived.Test.YticlgmdmkomdbaaDrawBytes
namespace Go.Proofs.Yticlgmdmkomdbaa
open Go.RowKit

/-- Behind a draw of a login. -/
def DrewLogin (w : World) (hi g p : Nat) (e : Ending) (w' : World) : Prop :=
  ∃ u v p', e = .returned (.agg #[.string u, .string v]) ∧ u.size ≤ 9 ∧ v.size ≤ 9 ∧ p' ≤ p + 4 ∧ Rd6 w' hi g p' ∧ w.grownBy w' (some g)

set_option maxRecDepth 100000 in
set_option maxHeartbeats 2000000 in
theorem l92Login_any (hi g p : Nat) (w : World) (hr : Rd6 w hi g p) (hp : p ≤ 900000) :
    Calls Try.prog 65 #[.pointer (some ⟨g, 0, none⟩)] w fun e w' => DrewLogin w hi g p e w' := by
  have hgw := hr.lt
  have hhi := hr.1
  have HR := Lib.hid hr
  clear hr
  go_enter Try.func65, Try.ntmps65
  go_wp2_with fail
  refine (of_any hi g p _ 3 3 9 [⟨#[97, 110, 110]⟩, ⟨#[98, 111, 98]⟩, ⟨#[120, 57]⟩] _ ((HR.out.alloc _).alloc _) (by omega) (strs_at (by simp)) rfl (by omega) (by omega) (by decide)).mono ?_
  rintro e w1 ⟨s1, rfl, hs1, r1, g1⟩
  have K1 := Lib.hid (((Blk.new w 31 #[.string .empty, .string .empty]).alloc (.cells (sv [⟨#[97, 110, 110]⟩, ⟨#[98, 111, 98]⟩, ⟨#[120, 57]⟩]).toArray 9)).grown g1 (by intro h; injection h with h; omega))
  have G1 : Hid (w.grownBy w1 (some g)) := Lib.hid (only_trans (only_alloc (only_alloc (World.grownBy.refl w _) _) _) g1)
  have R1 := Lib.hid r1
  have z1 := g1.size
  simp at z1
  clear r1 g1
  go_wp2_with fail
  refine (of_any hi g (p + 1) _ 3 3 9 [⟨#[97, 98, 99]⟩, ⟨#[57]⟩, ⟨#[115, 101, 99, 114, 101, 116]⟩] _ (R1.out.alloc _) (by omega) (strs_at rfl) rfl (by omega) (by omega) (by decide)).mono ?_
  rintro e w2 ⟨s2, rfl, hs2, r2, g2⟩
  have K2 := Lib.hid ((K1.out.alloc (.cells (sv [⟨#[97, 98, 99]⟩, ⟨#[57]⟩, ⟨#[115, 101, 99, 114, 101, 116]⟩]).toArray 9)).grown g2 (by intro h; injection h with h; omega))
  have G2 : Hid (w.grownBy w2 (some g)) := Lib.hid (only_trans (only_alloc G1.out _) g2)
  have R2 := Lib.hid r2
  have z2 := g2.size
  simp at z2
  clear r2 g2 K1 G1 R1
  go_wp2_with fail
  refine (pick_any hi g (p + 1 + 1) 16 _ (R2.out.alloc _) (by omega) (by omega)).mono ?_
  rintro e w3 ⟨x, rfl, _, r3, g3⟩
  have K3 := Lib.hid ((K2.out.alloc (.cells #[.string s1, .string s2] 31)).grown g3 (by intro h; injection h with h; omega))
  have T3 := Lib.hid ((Blk.new w2 31 #[.string s1, .string s2]).grown g3 (by intro h; injection h with h; omega))
  have G3 : Hid (w.grownBy w3 (some g)) := Lib.hid (only_trans (only_alloc G2.out _) g3)
  have R3 := Lib.hid r3
  have z3 := g3.size
  simp at z3
  have hne : w.heap.size ≠ w2.heap.size := by omega
  clear r3 g3 K2 G2 R2
  by_cases hx : x = 0
  · subst hx
    go_wp2_with fail
    refine (of_any hi g (p + 1 + 1 + 1) _ 3 3 9 [⟨#[]⟩, ⟨#[65]⟩, ⟨#[97, 98, 99, 100, 101, 102, 103, 104, 105]⟩] _ (R3.out.alloc _) (by omega) (strs_at rfl) rfl (by omega) (by omega) (by decide)).mono ?_
    rintro e w4 ⟨s3, rfl, hs3, r4, g4⟩
    have K4 := (K3.out.alloc (.cells (sv [⟨#[]⟩, ⟨#[65]⟩, ⟨#[97, 98, 99, 100, 101, 102, 103, 104, 105]⟩]).toArray 9)).grown g4 (by intro h; injection h with h; omega)
    have T4 := (T3.out.alloc (.cells (sv [⟨#[]⟩, ⟨#[65]⟩, ⟨#[97, 98, 99, 100, 101, 102, 103, 104, 105]⟩]).toArray 9)).grown g4 (by intro h; injection h with h; omega)
    have G4 : Hid (w.grownBy w4 (some g)) := Lib.hid (only_trans (only_alloc G3.out _) g4)
    have R4 := Lib.hid r4
    have a0 : w4.cell? ⟨w.heap.size, 0, none⟩ = some (.string .empty) := K4.cell 0
    have a1 : w4.cell? ⟨w.heap.size, 1, none⟩ = some (.string .empty) := K4.cell 1
    have b0 : w4.cell? ⟨w2.heap.size, 0, none⟩ = some (.string s1) := T4.cell 0
    have b1 : w4.cell? ⟨w2.heap.size, 1, none⟩ = some (.string s2) := T4.cell 1
    have fa0 := K4.free 0
    have fa1 := K4.free 1
    have fb1 := T4.free 1
    clear r4 g4 K4 T4 K3 T3 G3 R3
    go_wp2_with fail
    refine bodyPost_ret (v := .agg #[.string s1, .string s3]) (by simp [results, Try.results65, go_sem, a0, a1]) rfl ⟨s1, s3, p + 1 + 1 + 1 + 1, rfl, hs1, hs3, by omega, ?_, ?_⟩
    · have q1 : g ≠ w2.heap.size := by omega
      have q2 : hi ≤ w2.heap.size := by omega
      have q3 : g ≠ w.heap.size := by omega
      have q4 : hi ≤ w.heap.size := by omega
      exact ((R4.out.far (a := ⟨w2.heap.size, 1, none⟩) q1 q2 _).far (a := ⟨w.heap.size, 0, none⟩) q3 q4 _).far (a := ⟨w.heap.size, 1, none⟩) q3 q4 _
    · exact only_setCell (p := ⟨w.heap.size, 1, none⟩) (only_setCell (p := ⟨w.heap.size, 0, none⟩) (only_setCell (p := ⟨w2.heap.size, 1, none⟩) G4.out (.inr (show w.heap.size ≤ w2.heap.size by omega)) _) (.inr (Nat.le_refl _)) _) (.inr (Nat.le_refl _)) _
  · have hx' : (x == 0) = false := by simpa using hx
    have a0 : w3.cell? ⟨w.heap.size, 0, none⟩ = some (.string .empty) := K3.out.cell 0
    have a1 : w3.cell? ⟨w.heap.size, 1, none⟩ = some (.string .empty) := K3.out.cell 1
    have b0 : w3.cell? ⟨w2.heap.size, 0, none⟩ = some (.string s1) := T3.out.cell 0
    have b1 : w3.cell? ⟨w2.heap.size, 1, none⟩ = some (.string s2) := T3.out.cell 1
    have fa0 := K3.out.free 0
    have fa1 := K3.out.free 1
    clear hx
    go_wp2_with fail
    refine bodyPost_ret (v := .agg #[.string s1, .string s2]) (by simp [results, Try.results65, go_sem, a0, a1]) rfl ⟨s1, s2, p + 1 + 1 + 1, rfl, hs1, hs2, by omega, ?_, ?_⟩
    · have q3 : g ≠ w.heap.size := by omega
      have q4 : hi ≤ w.heap.size := by omega
      exact (R3.out.far (a := ⟨w.heap.size, 0, none⟩) q3 q4 _).far (a := ⟨w.heap.size, 1, none⟩) q3 q4 _
    · exact only_setCell (p := ⟨w.heap.size, 1, none⟩) (only_setCell (p := ⟨w.heap.size, 0, none⟩) G3.out (.inr (Nat.le_refl _)) _) (.inr (Nat.le_refl _)) _

def DrewLogin1 (w : World) (e : Ending) (w' : World) : Prop := ∃ u v, e = .returned (.agg #[.string u, .string v]) ∧ u.size ≤ 9 ∧ v.size ≤ 9 ∧ Below w.heap.size w w'

theorem DrawLoginBytes_any (v : Value) (bs : List Int) (w : World) (hv : Came .u8 w w.heap.size v bs) : Calls Try.prog 47 #[v] w fun e w' => DrewLogin1 w e w' := by
  go_enter Try.func47, Try.ntmps47
  go_wp2_with fail
  refine (l6Open_any _ bs w.heap.size _ (hv.keep fun b hb => Below.heap_alloc w _ b hb) (by simp)).mono ?_
  rintro e w1 ⟨rfl, r1, b1⟩
  simp only [World.size_alloc] at r1 b1 ⊢
  have K1 := Lib.hid ((Blk.new w 31 #[.string .empty, .string .empty]).below b1 (Nat.lt_succ_self _))
  have R1 := Lib.hid r1
  have B1 : Hid (Below w.heap.size w w1) := Lib.hid (((Below.refl _ _).alloc (Nat.le_refl _) _).trans (b1.mono (Nat.le_succ _)))
  have z1 := b1.size
  simp at z1
  clear r1 b1
  go_wp2_with fail
  refine (l92Login_any w.heap.size (w.heap.size + 1) 0 _ R1.out (by omega)).mono ?_
  rintro e w2 ⟨s1, s2, p2, rfl, hs1, hs2, _, _, g2⟩
  have K2 := K1.out.grown g2 (by intro h; injection h with h; omega)
  have B2 := Lib.hid (below_only B1.out g2 (by omega) (Nat.le_succ _))
  have a0 : w2.cell? ⟨w.heap.size, 0, none⟩ = some (.string .empty) := K2.cell 0
  have a1 : w2.cell? ⟨w.heap.size, 1, none⟩ = some (.string .empty) := K2.cell 1
  have fa0 := K2.free 0
  have fa1 := K2.free 1
  clear g2 K2
  go_wp2_with fail
  refine bodyPost_ret (v := .agg #[.string s1, .string s2]) (by simp [results, Try.results47, go_sem, a0, a1]) rfl ⟨s1, s2, rfl, hs1, hs2, ?_⟩
  exact (B2.out.setCell (p := ⟨w.heap.size, 0, none⟩) (Nat.le_refl _) _).setCell (p := ⟨w.heap.size, 1, none⟩) (Nat.le_refl _) _
end Go.Proofs.Yticlgmdmkomdbaa

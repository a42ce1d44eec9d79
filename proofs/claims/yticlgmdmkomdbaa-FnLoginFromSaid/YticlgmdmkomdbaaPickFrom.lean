/-
  PickBytes, PickFrom and HelloFrom of the program and of the reference return the same plain functions. Conditions: each slice reads as a list of integers.
-/
import Derived.Test.YticlgmdmkomdbaaFromLaw
import Derived.Test.YticlgmdmkomdbaaReader2
namespace Go.Proofs.Yticlgmdmkomdbaa
open Go.RowKit

def pickB (m : Int) : List Int := if inR m 0 255 = true then [5, m] else []
theorem impl_PickBytes_any (m : Int) (w : World) : Calls Try.prog 38 #[.int .i64 m] w fun e w' => Gave w (pickB m) (inR m 0 255) e w' := by
  cases h : inR m 0 255
  · have HS : Hid (pickB m = []) := Lib.hid (by simp [pickB, h])
    go_enter Try.func38, Try.ntmps38
    go_wp2_with (go_at_call 74; refine (within_any _ _ _ _).mono ?_; rintro e w' ⟨rfl, rfl⟩)
    go_ret2
    exact ⟨_, rfl, by rw [HS.out]; exact Own.nil_ _ _, Below.refl _ _⟩
  · have HS : Hid (pickB m = [5, m]) := Lib.hid (by simp [pickB, h])
    go_enter Try.func38, Try.ntmps38
    go_wp2_with (go_at_call 74; refine (within_any _ _ _ _).mono ?_; rintro e w' ⟨rfl, rfl⟩)
    go_ret2
    exact ⟨_, rfl, by rw [HS.out]; exact Own.lit w [5, m] _ (Nat.le_refl _) (by simp), (Below.refl _ _).alloc (Nat.le_refl _) _⟩
theorem spec_PickBytes_any (m : Int) (w : World) : Calls Try.prog 39 #[.int .i64 m] w fun e w' => Gave w (pickB m) (inR m 0 255) e w' := by
  cases h : inR m 0 255
  · have HS : Hid (pickB m = []) := Lib.hid (by simp [pickB, h])
    go_enter Try.func39, Try.ntmps39
    go_wp2_with (go_at_call 75; refine (l6In_any _ _ _ _).mono ?_; rintro e w' ⟨rfl, rfl⟩)
    go_ret2
    exact ⟨_, rfl, by rw [HS.out]; exact Own.lit w [] _ (Nat.le_refl _) (by simp), (Below.refl _ _).alloc (Nat.le_refl _) _⟩
  · have HS : Hid (pickB m = [5, m]) := Lib.hid (by simp [pickB, h])
    go_enter Try.func39, Try.ntmps39
    go_wp2_with (go_at_call 75; refine (l6In_any _ _ _ _).mono ?_; rintro e w' ⟨rfl, rfl⟩)
    go_ret2
    exact ⟨_, rfl, by rw [HS.out]; exact Own.lit w [5, m] _ (Nat.le_refl _) (by simp), (Below.refl _ _).alloc (Nat.le_refl _) _⟩

def pfV (zs : List Int) : Int := if pfOk zs = true then zs.getD 1 0 else 0
def pfN (zs : List Int) : Int := if pfOk zs = true then 2 else 0
theorem impl_PickFrom_any (v : Value) (zs : List Int) (w : World) (hv : Ints w 0 v zs) :
    Calls Try.prog 40 #[v] w fun e w' => e = .returned (.tuple #[.int .i64 (pfV zs), .int .i64 (pfN zs), .bool (pfOk zs)]) ∧ Below w.heap.size w w' := by
  have HV := Lib.hid hv
  clear hv
  go_enter Try.func40, Try.ntmps40
  go_wp2_with fail
  refine (newReader_any _ zs _ HV.out).mono ?_
  rintro e w1 ⟨rfl, r1, b1⟩
  have R1 := Lib.hid r1
  have B1 := Lib.hid b1
  clear r1 b1
  go_wp2_with fail
  refine (expect_any _ _ _ zs [5] _ _ (R1.out.alloc _) (lit1 _ _) (by simp)).mono ?_
  rintro e w2 ⟨rfl, t2⟩
  have T2 := Lib.hid t2
  have hs1 := B1.out.size
  have hs2 := t2.2.size
  simp at hs2
  have B2 := Lib.hid (below_only (B1.out.alloc hs1 _) t2.2 (by simp; omega) (Nat.le_refl _))
  clear t2
  go_wp2_with fail
  refine (byte_any _ _ zs _ _ T2.out.1).mono ?_
  rintro e w3 ⟨rfl, t3⟩
  have B3 := Lib.hid (below_only B2.out t3.2 (by omega) (Nat.le_refl _))
  have c2 := t3.1.c2
  rw [pf_bad] at c2
  clear t3 T2 R1
  cases h : pfOk zs
  · rw [h] at c2
    have E1 : Hid (pfV zs = 0) := Lib.hid (by simp [pfV, h])
    have E2 : Hid (pfN zs = 0) := Lib.hid (by simp [pfN, h])
    have E4 := Lib.hid h
    obtain ⟨x, hx⟩ : ∃ x, rByte zs (rTold zs (rStart zs) [5]) = x := ⟨_, rfl⟩
    rw [hx]
    clear h hx
    go_wp2_with fail
    go_ret3
    exact ⟨by rw [E1.out, E2.out, E4.out]; rfl, B3.out⟩
  · rw [h] at c2
    have E1 : Hid (pfV zs = zs.getD 1 0) := Lib.hid (by simp [pfV, h])
    have E2 : Hid (pfN zs = 2) := Lib.hid (by simp [pfN, h])
    have E4 := Lib.hid h
    obtain ⟨x, hx⟩ : ∃ x, rByte zs (rTold zs (rStart zs) [5]) = x := ⟨_, rfl⟩
    have E3 : Hid (x = zs.getD 1 0) := Lib.hid (by obtain ⟨e1, _, e3⟩ := pf_state h; rw [← hx, e1, e3])
    rw [hx]
    clear h hx
    go_wp2_with fail
    go_ret3
    exact ⟨by rw [E1.out, E2.out, E4.out, ← E3.out]; rfl, B3.out⟩

theorem spec_PickFrom_any (v : Value) (zs : List Int) (w : World) (hv : Ints w 0 v zs) :
    Calls Try.prog 54 #[v] w fun e w' => e = .returned (.tuple #[.int .i64 (pfV zs), .int .i64 (pfN zs), .bool (pfOk zs)]) ∧ w = w' := by
  have HV := Lib.hid hv
  obtain ⟨A, c, rfl, hc, hm, hA⟩ := hv.open_
  clear hv
  cases h1 : validL zs
  · have E : Hid (pfOk zs = false ∧ pfV zs = 0 ∧ pfN zs = 0) := Lib.hid (by simp [pfV, pfN, pfOk, h1])
    go_enter Try.func54, Try.ntmps54
    go_wp2_with (go_at_call 82; refine (spec_BytesValid_any _ zs _ HV.out).mono ?_; rintro e w' ⟨rfl, rfl⟩)
    go_ret3
    exact ⟨by rw [E.out.1, E.out.2.1, E.out.2.2]; first | done | rfl, rfl⟩
  · by_cases h2 : zs.length < 2
    · have E : Hid (pfOk zs = false ∧ pfV zs = 0 ∧ pfN zs = 0) := Lib.hid (by
        have h2' : ¬ 2 ≤ zs.length := by omega
        simp [pfV, pfN, pfOk, h2'])
      have h2' : (zs.length : Int) < 2 := by omega
      clear h2
      go_enter Try.func54, Try.ntmps54
      go_wp2_with (go_at_call 82; refine (spec_BytesValid_any _ zs _ HV.out).mono ?_; rintro e w' ⟨rfl, rfl⟩)
      go_ret3
      exact ⟨by rw [E.out.1, E.out.2.1, E.out.2.2]; first | done | rfl, rfl⟩
    · obtain ⟨b, o, rfl, _, hb, hs⟩ := hA.resolve_left (fun h => by rw [h] at h2; simp at h2)
      have c0 := hs.int_at (j := 0) (by omega)
      have c1 := hs.int_at (j := 1) (by omega)
      have h2' : (2 : Int) ≤ (zs.length : Int) := by omega
      rw [Nat.add_zero] at c0
      obtain ⟨x, hx⟩ : ∃ x, zs.getD 0 0 = x := ⟨_, rfl⟩
      obtain ⟨y, hy⟩ : ∃ y, zs.getD 1 0 = y := ⟨_, rfl⟩
      rw [hx] at c0
      rw [hy] at c1
      by_cases h3 : x = 5
      · subst h3
        have E : Hid (pfOk zs = true ∧ pfV zs = y ∧ pfN zs = 2) := Lib.hid (by
          have h2' : 2 ≤ zs.length := by omega
          have e : pfOk zs = true := by rw [pfOk, h1, hx]; simp [h2']
          exact ⟨e, by rw [pfV, e, hy]; rfl, by rw [pfN, e]; rfl⟩)
        clear hs hx hy h2
        go_enter Try.func54, Try.ntmps54
        go_wp2_with (go_at_call 82; refine (spec_BytesValid_any _ zs _ HV.out).mono ?_; rintro e w' ⟨rfl, rfl⟩)
        go_ret3
        exact ⟨by rw [E.out.1, E.out.2.1, E.out.2.2]; first | done | rfl, rfl⟩
      · have E : Hid (pfOk zs = false ∧ pfV zs = 0 ∧ pfN zs = 0) := Lib.hid (by
          have e : pfOk zs = false := by rw [pfOk, hx, decide_eq_false h3, Bool.and_false]
          exact ⟨e, by rw [pfV, e]; rfl, by rw [pfN, e]; rfl⟩)
        have h3' : (x != 5) = true := by simpa using h3
        clear hs hx hy h2 h3
        go_enter Try.func54, Try.ntmps54
        go_wp2_with (go_at_call 82; refine (spec_BytesValid_any _ zs _ HV.out).mono ?_; rintro e w' ⟨rfl, rfl⟩)
        go_ret3
        exact ⟨by rw [E.out.1, E.out.2.1, E.out.2.2]; first | done | rfl, rfl⟩
end Go.Proofs.Yticlgmdmkomdbaa

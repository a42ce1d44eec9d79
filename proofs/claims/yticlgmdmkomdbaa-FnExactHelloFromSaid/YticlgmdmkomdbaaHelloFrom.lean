/-
  HelloFrom of the program and of the reference return the same plain function of the bytes. Conditions: the slice reads as a list of integers.
-/
import Derived.Test.YticlgmdmkomdbaaPickFrom
namespace Go.Proofs.Yticlgmdmkomdbaa
open Go.RowKit

def hfR (zs : List Int) : List Int := if hfOk zs = true then hfL zs else []
def hfC (zs : List Int) : Int := if hfOk zs = true then 2 + zs.getD 1 0 else 0
/-- A list that was read: the slice, how many bytes it took, and whether it is there. -/
def ReadL (w : World) (zs : List Int) (n : Int) (ok : Bool) (e : Ending) (w' : World) : Prop :=
  ∃ v, e = .returned (.tuple #[v, .int .i64 n, .bool ok]) ∧ Own w' w.heap.size v zs ∧ Below w.heap.size w w'
theorem hf_not {zs : List Int} (h : hfOk zs = false) : hfR zs = [] ∧ hfC zs = 0 := by simp [hfR, hfC, h]

set_option maxHeartbeats 1000000 in
theorem impl_HelloFrom_any (v : Value) (zs : List Int) (w : World) (hv : Ints w 0 v zs) :
    Calls Try.prog 52 #[v] w fun e w' => ReadL w (hfR zs) (hfC zs) (hfOk zs) e w' := by
  have HV := Lib.hid hv
  clear hv
  go_enter Try.func52, Try.ntmps52
  go_wp2_with fail
  refine (newReader_any _ zs _ HV.out).mono ?_
  rintro e w1 ⟨rfl, r1, b1⟩
  have R1 := Lib.hid r1
  have B1 := Lib.hid b1
  clear r1 b1
  go_wp2_with fail
  refine (expect_any _ _ _ zs [5] _ _ (R1.out.alloc _) (lit1 _ _) (by simp)).mono ?_
  rintro e w2 ⟨rfl, t2⟩
  have T2 := Lib.hid t2
  have hs1 := B1.out.size
  have hs2 := t2.2.size
  simp at hs2
  have B2 := Lib.hid (below_only (B1.out.alloc hs1 _) t2.2 (by simp; omega) (Nat.le_refl _))
  clear t2
  go_wp2_with fail
  refine (byte_any _ _ zs _ _ T2.out.1).mono ?_
  rintro e w3 ⟨rfl, t3⟩
  have T3 := Lib.hid t3
  have hs3 := t3.2.size
  have B3 := Lib.hid (below_only B2.out t3.2 (by omega) (Nat.le_refl _))
  clear t3
  have hN := rByte_range T2.out.1.fit
  obtain ⟨n, hn⟩ : ∃ n : Nat, rByte zs (rTold zs (rStart zs) [5]) = (n : Int) := ⟨_, (Int.toNat_of_nonneg hN.1).symm⟩
  have EN : Hid ((hfN zs).toNat = n) := Lib.hid (by rw [hfN, hn, Int.toNat_natCast])
  rw [hn] at hN ⊢
  clear hn
  go_wp2_with fail
  refine (take_any _ _ zs _ n _ T3.out.1 (by omega)).mono ?_
  rintro e w4 ⟨u, rfl, o4, t4⟩
  have hs4 := t4.2.size
  have B4 := Lib.hid (below_only B3.out t4.2 (by omega) (Nat.le_refl _))
  have EG : Hid (rGot zs (rNext zs (rTold zs (rStart zs) [5]) 1) n = hfG zs) := Lib.hid (by rw [hfG, EN.out, hfS])
  have EE : Hid (rNext zs (rNext zs (rTold zs (rStart zs) [5]) 1) n = hfE zs) := Lib.hid (by rw [hfE, EN.out, hfS])
  rw [EG.out] at o4
  have t4' := t4.1
  rw [EE.out] at t4'
  have O4 := Lib.hid o4
  have c1 := t4'.c1
  have c2 := t4'.c2
  clear t4 t4' o4 T2 T3 R1
  have HK := Lib.hid (hf_ok zs)
  cases hb : (hfE zs).2
  · rw [hb] at c2
    cases hm : methodsOk (hfG zs)
    · have E : Hid (hfOk zs = false) := Lib.hid (by rw [← HK.out, hb, hm]; rfl)
      obtain ⟨p, hp⟩ : ∃ p, (hfE zs).1 = p := ⟨_, rfl⟩
      rw [hp] at c1
      clear hb hp
      go_wp2_with fail
      refine (areMethods_any _ (hfG zs) _ O4.out.ints.zero).mono ?_
      rintro e w' ⟨rfl, rfl⟩
      go_wp2_with fail
      go_ret3
      exact ⟨_, by rw [(hf_not E.out).2, E.out]; first | done | rfl, by rw [(hf_not E.out).1]; exact Own.nil_ _ _, B4.out⟩
    · have hok : hfOk zs = true := by rw [← HK.out, hb, hm]; rfl
      have E : Hid (hfOk zs = true) := Lib.hid hok
      have S := hf_state hok
      have ES := Lib.hid S
      have h3 := hfOk_three hok
      have hp : ((hfE zs).1 : Int) = 2 + zs.getD 1 0 := by rw [S.2]; show ((2 + (zs.getD 1 0).toNat : Nat) : Int) = _; omega
      rw [hp] at c1
      have E2 : Hid (hfC zs = 2 + zs.getD 1 0) := Lib.hid (by rw [hfC, hok]; rfl)
      have E3 : Hid (hfR zs = hfL zs) := Lib.hid (by rw [hfR, hok]; rfl)
      obtain ⟨q, hq⟩ : ∃ q, 2 + zs.getD 1 0 = q := ⟨_, rfl⟩
      rw [hq] at c1
      have EQ := Lib.hid hq
      clear hb hp S hok h3 hq
      go_wp2_with fail
      refine (areMethods_any _ (hfG zs) _ O4.out.ints.zero).mono ?_
      rintro e w' ⟨rfl, rfl⟩
      go_wp2_with fail
      go_quiet (fail)
      go_wp2_with fail
      go_ret3
      refine ⟨_, by rw [E2.out, E.out, EQ.out]; first | done | rfl, ?_, below_drewN B4.out _⟩
      have h := O4.out.drewN nq
      rw [ES.out.1] at h
      rw [E3.out]
      exact h.more (by omega)
  · rw [hb] at c2
    have E : Hid (hfOk zs = false) := Lib.hid (by rw [← HK.out, hb]; rfl)
    obtain ⟨p, hp⟩ : ∃ p, (hfE zs).1 = p := ⟨_, rfl⟩
    rw [hp] at c1
    clear hb hp
    go_wp2_with fail
    go_ret3
    exact ⟨_, by rw [(hf_not E.out).2, E.out]; first | done | rfl, by rw [(hf_not E.out).1]; exact Own.nil_ _ _, B4.out⟩
end Go.Proofs.Yticlgmdmkomdbaa

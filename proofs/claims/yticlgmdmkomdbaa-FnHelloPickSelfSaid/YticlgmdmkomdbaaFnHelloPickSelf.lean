/-
  With the same methods the first one is taken: true for every code. Conditions: none.
-/
import Derived.Test.YticlgmdmkomdbaaKit
import Derived.Test.YticlgmdmkomdbaaHelloPick
import Derived.Test.YticlgmdmkomdbaaDrawMethods
import Derived.Deep.RegionWith
namespace Go.Proofs.Yticlgmdmkomdbaa.fnHelloPickSelf
open Go.ChangeShapes Go.WideShapes Go.ChangeAt Go.RowKit

theorem pick_self {a : List Int} (h : methodsOk a = true) : pickL a a = a.getD 0 0 := by
  have hl : 0 < a.length := by
    have h' := h
    unfold methodsOk at h'
    rw [Bool.and_eq_true] at h'
    have h2 := h'.2
    simp [inR] at h2
    omega
  rw [pickL_ok h h]
  exact pick_at a 0 hl (fun j hj => by omega) (hasI_here hl rfl)
theorem pick_one {a m : List Int} {P : Int} (h1 : methodsOk a = true) (h2 : methodsOk m = true) {k : Nat} (hk : k < a.length) (hP : a.getD k 0 = P) (hm : hasI m P = true) : pickL [P] m = P := by
  have hr : inR P 0 254 = true := by
    cases h : inR P 0 254
    · rw [methodsOk_not hk hP (.inl h)] at h1; cases h1
    · rfl
  have h3 : methodsOk [P] = true := by
    simp [inR] at hr
    simp [methodsOk, mTo, mOk, hasI, inR]
    omega
  rw [pickL_ok h3 h2]
  simp [pickTo, hm]

set_option maxRecDepth 100000 in
set_option maxHeartbeats 4000000 in
theorem walk (v : Value) (bs : List Int) (w : World) (hv : Came .u8 w w.heap.size v bs) : Calls Try.prog 7 #[v] w fun e w' => e = .returned (.bool true) ∧ Below w.heap.size w w' := by
  have hv0 := Lib.hid hv
  obtain ⟨A, c, rfl, hc, hm, _, _⟩ := hv
  by_cases hl : 1048576 < bs.length
  · have hl' : (1048576 : Int) < (bs.length : Int) := by omega
    go_enter Try.func7, Try.ntmps7
    go_wp2_with fail
    go_ret
    exact ⟨rfl, Below.refl _ _⟩
  · have hl' : (bs.length : Int) ≤ 1048576 := by omega
    clear hl
    go_enter Try.func7, Try.ntmps7
    go_wp2_with fail
    refine (DrawHelloPick_any _ bs w hv0.out).mono ?_
    rintro e w1 ⟨v1, v2, a, m, rfl, i1, i2, la, lm, b1⟩
    have I1 := Lib.hid i1
    have I2 := Lib.hid i2
    have B1 := Lib.hid b1
    clear i1 i2 b1
    obtain ⟨A1, c1, rfl, hc1, hm1, hA1⟩ := I1.out.open_
    obtain ⟨A2, c2, rfl, hc2, hm2, hA2⟩ := I2.out.open_
    go_wp2_with fail
    refine (impl_HelloPick_any _ _ a m _ I1.out I2.out).mono ?_
    rintro e w' ⟨rfl, rfl⟩
    go_wp2_with fail
    refine (spec_HelloPick_any _ _ a m _ I1.out I2.out).mono ?_
    rintro e w' ⟨rfl, n1, rfl⟩
    obtain ⟨P, hP⟩ : ∃ P, pickL a m = P := ⟨_, rfl⟩
    rw [hP]
    by_cases h255 : P = 255
    · subst h255
      clear hP
      go_wp2_with fail
      go_ret
      exact ⟨rfl, below_drewN B1.out _⟩
    · have hne : (P == 255) = false := by simpa using h255
      have hok : methodsOk a = true ∧ methodsOk m = true := by
        unfold pickL at hP
        split at hP
        · assumption
        · exact absurd hP.symm h255
      have hw : ∃ k, k < a.length ∧ NoneTo a m k ∧ a.getD k 0 = P ∧ hasI m P = true := by
        rw [pickL_ok hok.1 hok.2] at hP
        rw [← hP]
        exact pick_where a (by rw [hP]; exact h255)
      obtain ⟨i0, hi0, hN, hiP, hmP⟩ := hw
      have S1 := Lib.hid (pick_self hok.1)
      have S2 := Lib.hid (pick_one hok.1 hok.2 hi0 hiP hmP)
      obtain ⟨b, o, rfl, _, hb, hs⟩ := hA1.resolve_left (fun h => by rw [h] at hi0; simp at hi0)
      have cy := hs.int_at (j := 0) (by omega)
      obtain ⟨y, hy⟩ : ∃ y, a.getD 0 0 = y := ⟨_, rfl⟩
      rw [hy] at cy
      have S1' : Hid (pickL a a = y) := Lib.hid (S1.out.trans hy)
      rw [Nat.add_zero] at cy
      have la1 : (0 : Int) < (a.length : Int) := by omega
      have la2 : 0 < a.length := by omega
      have k1 : ∀ W : World, Ints W 0 (.slice (some ⟨b, o, none⟩) a.length c1) a → Calls Try.prog 35 #[.slice (some ⟨b, o, none⟩) a.length c1, .slice (some ⟨b, o, none⟩) a.length c1] W fun e w' => e = .returned (.int .i64 y) ∧ W = w' := fun W hW => by
        have h := impl_HelloPick_any _ _ a a W hW hW
        rw [S1'.out] at h
        exact h
      have k2 : ∀ (W : World) (u : Value), Ints W 0 u [P] → Ints W 0 (.slice A2 m.length c2) m → Calls Try.prog 35 #[u, .slice A2 m.length c2] W fun e w' => e = .returned (.int .i64 P) ∧ W = w' := fun W u hW hM => by
        have h := impl_HelloPick_any _ _ [P] m W hW hM
        rw [S2.out] at h
        exact h
      have K1 := Lib.hid k1
      have K2 := Lib.hid k2
      clear k1 k2 hs hA1 hA2 hok hN hiP hmP hP h255 hy
      go_wp2_with fail
      go_region_with (go_at_call 35; first | ((with_reducible refine (K1.out _ ?_).mono ?_); (first | exact I1.out | exact Ints.alloc I1.out _); rintro e w' ⟨rfl, rfl⟩) | ((with_reducible refine (K2.out _ _ ?_ ?_).mono ?_); exact lit1 _ _; (first | exact I2.out | exact Ints.alloc I2.out _); rintro e w' ⟨rfl, rfl⟩))
      all_goals
        go_wp2_with fail
        go_ret
        refine ⟨by first | rfl | simp, ?_⟩
        repeat (first | exact B1.out | exact B1.out.size | exact Nat.le_refl _ | apply below_drewN | apply Below.drew | refine Below.alloc ?_ ?_ _)
set_option maxRecDepth 100000 in
theorem lifted (os : Os) (started : os.Started) (H : Type) (enc : TypeId × Value → H) :
    ReturnsInHanded {} Try.checked os 7 .any (Rows.fnHelloPickSelfSpec.pre6 enc Try.prog Try.f7 Rows.fnHelloPickSelfRow.domain false) (Rows.fnHelloPickSelfSpec.post enc Try.prog Try.f7 false true false false) := by
  refine returnsInHanded_of_change (C := Try.checked) Try.own started (by kernel_rfl) Try.func7
    (ChangeSpec.witness6 (enc := enc) (C := Try.checked) false ⟨#[], #[.slice none 0 0], []⟩ 8 (by kernel_rfl) (by kernel_rfl) (by kernel_rfl) (by kernel_rfl)) ?_
  intro W base args ds gs before hval0 hW hcnd _
  have hval : ∀ (j : Nat) t v, Try.f7.params[j]? = some t → args[j]? = some v → Value.okWide Try.prog W .any base t v := hval0
  have hW' := hW
  obtain ⟨p, q, hA0, hV, rfl, hfz, hnd⟩ := hW
  have hA : DataW.TrodAll enc Try.prog W 0 (fun _ => true) true Try.f7.params.toList args.toList ds p := hA0
  rw [Try.params7] at hA hval
  obtain ⟨v0, vs0, d0, ds0, p0, q0, hargs, rfl, rfl, h0, r0⟩ := trodAll_cons hA
  obtain ⟨rfl, rfl, rfl⟩ := trodAll_nil r0
  obtain rfl : args = #[v0] := by cases args; simp_all
  obtain ⟨rfl, rfl⟩ := trodVars_none hV
  obtain ⟨a0, len0, cap0, rfl⟩ := okWide_slice Try.underlying27 (hval 0 27 v0 rfl rfl)
  have k0 := h0
  have lt0 : ∀ x ∈ p0, x.block < W.heap.size := by obtain ⟨m, hm⟩ := k0; exact DataW.trod_lt m _ _ _ hm
  obtain ⟨z0, w0⟩ : ∃ zs, IsRow .u8 W a0 len0 cap0 zs := by
    obtain ⟨fuel, hf⟩ := h0
    rcases open_ints Try.underlying27 Try.underlying5 (by kernel_rfl) hf with ⟨hcs, _⟩ | ⟨x, l, c, zs, hcs, _, hl, hm, hz, _, hcell, hwz⟩
    · simp [Value.cells] at hcs
      obtain ⟨rfl, rfl, rfl⟩ := hcs
      exact ⟨[], .inl ⟨rfl, rfl, rfl, rfl⟩⟩
    · simp [Value.cells] at hcs
      obtain ⟨rfl, rfl, rfl⟩ := hcs
      exact ⟨zs, .inr ⟨_, rfl, hl, hm, by simpa using hz, hcell, hwz⟩⟩
  clear hA0 hval0
  refine (walk (.slice a0 len0 cap0) _ W ((Came.of_row w0).1)).mono fun e W' ⟨he, bel⟩ => ?_
  subst he
  exact ⟨_, rfl, _, _, _, [], _, [], hW', trodAll_mk1 (shut_bool Try.underlying4 _), (trodAll_cons_mk (Below.trod Try.laidOut (by kernel_rfl) (of_decide_eq_true (by kernel_rfl)) k0 bel lt0) trodAll_mk0), rfl, bel.frame _, fun h => by cases h⟩

theorem closed : joinedFacts Try.prog 7 Try.f7 Rows.fnHelloPickSelfSpec Rows.fnHelloPickSelfRow = true := by
  unfold joinedFacts
  repeat' (with_reducible refine band ?_ ?_)
  all_goals (with_reducible (first | exact Try.laidOut | exact kMaps | exact kStops | exact kKnobs | exact kHeard | exact kEnter | refine eqPlain ?_ | refine eqLift ?_ | refine eqMake ?_ | skip))
  all_goals (as_aux_lemma => kernel_rfl)

/-- THE STATEMENT -/
theorem proved : Rows.FnHelloPickSelfSaid :=
  OpenClaim.holds_of_wide 7 Try.f7 rfl rfl rfl rfl rfl rfl rfl ⟨rfl, rfl, rfl, rfl, rfl⟩ rfl rfl rfl rfl rfl (by as_aux_lemma => kernel_rfl) Try.func7 closed
    (of_decide_eq_true (by as_aux_lemma => kernel_rfl)) (by unfold Func.isWrapper; first | (rw [if_pos (by decide +kernel)]; kernel_rfl) | (rw [if_neg (by decide +kernel)]; exact ⟨rfl, rfl⟩))
    (fun os started H enc _ => lifted os started H enc)
end Go.Proofs.Yticlgmdmkomdbaa.fnHelloPickSelf

/-
  A method that is taken has two bytes: true for every code. Conditions: none.
-/
import Derived.Test.YticlgmdmkomdbaaKit
import Derived.Test.YticlgmdmkomdbaaDrawHello
namespace Go.Proofs.Yticlgmdmkomdbaa.fnPick
open Go.ChangeShapes Go.WideShapes Go.ChangeAt Go.RowKit

theorem pf_of_pick {y : Int} (h : inR y 0 255 = true) : pfOk (pickB y) = true ∧ pfV (pickB y) = y ∧ pfN (pickB y) = 2 ∧ pickB y = [5, y] := by
  have e : pickB y = [5, y] := by simp [pickB, h]
  have hr : 0 ≤ y ∧ y ≤ 255 := by simpa [inR] using h
  have hv : validL [5, y] = true := validL_of (by simp) (by
    intro x hx
    simp only [List.mem_cons, List.not_mem_nil, or_false] at hx
    rcases hx with rfl | rfl <;> omega)
  have ho : pfOk [5, y] = true := by rw [pfOk, hv]; rfl
  rw [e]
  exact ⟨ho, by rw [pfV, ho]; rfl, by rw [pfN, ho]; rfl, rfl⟩

set_option maxRecDepth 100000 in
set_option maxHeartbeats 2000000 in
theorem walk (v : Value) (bs : List Int) (w : World) (hv : Came .u8 w w.heap.size v bs) : Calls Try.prog 8 #[v] w fun e w' => e = .returned (.bool true) ∧ Below w.heap.size w w' := by
  have hv0 := Lib.hid hv
  obtain ⟨A, c, rfl, hc, hm, _, _⟩ := hv
  by_cases hl : 1048576 < bs.length
  · have hl' : (1048576 : Int) < (bs.length : Int) := by omega
    go_enter Try.func8, Try.ntmps8
    go_wp2_with fail
    go_ret
    exact ⟨rfl, Below.refl _ _⟩
  · have hl' : (bs.length : Int) ≤ 1048576 := by omega
    clear hl
    go_enter Try.func8, Try.ntmps8
    go_wp2_with fail
    refine (DrawPickBytes_any _ bs w hv0.out).mono ?_
    rintro e w1 ⟨y, rfl, b1⟩
    have B1 := Lib.hid b1
    clear b1
    go_wp2_with fail
    refine (impl_PickBytes_any y _).mono ?_
    rintro e w2 ⟨v2, rfl, o2, b2⟩
    have O2 := Lib.hid o2
    have B2 := Lib.hid (B1.out.trans (b2.mono B1.out.size))
    clear o2 b2
    go_wp2_with fail
    refine (spec_PickBytes_any y _).mono ?_
    rintro e w3 ⟨v3, rfl, o3, b3⟩
    have O2' := Lib.hid (O2.out.below b3).ints.zero
    have O3 := Lib.hid o3.ints.zero
    have B3 := Lib.hid (B2.out.trans (b3.mono B2.out.size))
    clear o3 b3 O2
    cases hy : inR y 0 255
    · go_wp2_with fail
      refine (sameBytes_any _ _ (pickB y) (pickB y) _ O2'.out O3.out).mono ?_
      rintro e w4 ⟨rfl, n4, rfl⟩
      go_wp2_with fail
      refine (sameBytes_any _ _ (pickB y) (pickB y) _ (O2'.out.drewN _) (O3.out.drewN _)).mono ?_
      rintro e w5 ⟨rfl, n5, rfl⟩
      go_wp2_with fail
      go_ret
      exact ⟨rfl, below_drewN B3.out _⟩
    · have E := Lib.hid (pf_of_pick hy)
      clear hy
      go_wp2_with fail
      refine (sameBytes_any _ _ (pickB y) (pickB y) _ O2'.out O3.out).mono ?_
      rintro e w4 ⟨rfl, n4, rfl⟩
      go_wp2_with fail
      refine (impl_PickFrom_any _ (pickB y) _ (O2'.out.drewN _)).mono ?_
      rintro e w5 ⟨rfl, b5⟩
      rw [E.out.1, E.out.2.1, E.out.2.2.1]
      have O5 : Hid (Ints w5 0 v2 [5, y]) := Lib.hid (by
        have h := (O2'.out.drewN n4).below b5
        rwa [E.out.2.2.2] at h)
      have B5 := Lib.hid ((below_drewN B3.out n4).trans (b5.mono (show _ ≤ _ from B3.out.size)))
      clear b5
      go_wp2_with fail
      refine (sameBytes_any _ _ [5, y] [5, y] _ (O5.out.alloc _) (Own.lit w5 [5, y] 0 (Nat.zero_le _) (by simp)).ints).mono ?_
      rintro e w6 ⟨rfl, n6, rfl⟩
      go_wp2_with fail
      go_ret
      exact ⟨rfl, below_drewN (B5.out.alloc B5.out.size _) _⟩
set_option maxRecDepth 100000 in
theorem lifted (os : Os) (started : os.Started) (H : Type) (enc : TypeId × Value → H) :
    ReturnsInHanded {} Try.checked os 8 .any (Rows.fnPickSpec.pre6 enc Try.prog Try.f8 Rows.fnPickRow.domain false) (Rows.fnPickSpec.post enc Try.prog Try.f8 false true false false) := by
  refine returnsInHanded_of_change (C := Try.checked) Try.own started (by kernel_rfl) Try.func8
    (ChangeSpec.witness6 (enc := enc) (C := Try.checked) false ⟨#[], #[.slice none 0 0], []⟩ 8 (by kernel_rfl) (by kernel_rfl) (by kernel_rfl) (by kernel_rfl)) ?_
  intro W base args ds gs before hval0 hW hcnd _
  have hval : ∀ (j : Nat) t v, Try.f8.params[j]? = some t → args[j]? = some v → Value.okWide Try.prog W .any base t v := hval0
  have hW' := hW
  obtain ⟨p, q, hA0, hV, rfl, hfz, hnd⟩ := hW
  have hA : DataW.TrodAll enc Try.prog W 0 (fun _ => true) true Try.f8.params.toList args.toList ds p := hA0
  rw [Try.params8] at hA hval
  obtain ⟨v0, vs0, d0, ds0, p0, q0, hargs, rfl, rfl, h0, r0⟩ := trodAll_cons hA
  obtain ⟨rfl, rfl, rfl⟩ := trodAll_nil r0
  obtain rfl : args = #[v0] := by cases args; simp_all
  obtain ⟨rfl, rfl⟩ := trodVars_none hV
  obtain ⟨a0, len0, cap0, rfl⟩ := okWide_slice Try.underlying27 (hval 0 27 v0 rfl rfl)
  have k0 := h0
  have lt0 : ∀ x ∈ p0, x.block < W.heap.size := by obtain ⟨m, hm⟩ := k0; exact DataW.trod_lt m _ _ _ hm
  obtain ⟨z0, w0⟩ : ∃ zs, IsRow .u8 W a0 len0 cap0 zs := by
    obtain ⟨fuel, hf⟩ := h0
    rcases open_ints Try.underlying27 Try.underlying5 (by kernel_rfl) hf with ⟨hcs, _⟩ | ⟨x, l, c, zs, hcs, _, hl, hm, hz, _, hcell, hwz⟩
    · simp [Value.cells] at hcs
      obtain ⟨rfl, rfl, rfl⟩ := hcs
      exact ⟨[], .inl ⟨rfl, rfl, rfl, rfl⟩⟩
    · simp [Value.cells] at hcs
      obtain ⟨rfl, rfl, rfl⟩ := hcs
      exact ⟨zs, .inr ⟨_, rfl, hl, hm, by simpa using hz, hcell, hwz⟩⟩
  clear hA0 hval0
  refine (walk (.slice a0 len0 cap0) _ W ((Came.of_row w0).1)).mono fun e W' ⟨he, bel⟩ => ?_
  subst he
  exact ⟨_, rfl, _, _, _, [], _, [], hW', trodAll_mk1 (shut_bool Try.underlying4 _), (trodAll_cons_mk (Below.trod Try.laidOut (by kernel_rfl) (of_decide_eq_true (by kernel_rfl)) k0 bel lt0) trodAll_mk0), rfl, bel.frame _, fun h => by cases h⟩

theorem closed : joinedFacts Try.prog 8 Try.f8 Rows.fnPickSpec Rows.fnPickRow = true := by
  unfold joinedFacts
  repeat' (with_reducible refine band ?_ ?_)
  all_goals (with_reducible (first | exact Try.laidOut | exact kMaps | exact kStops | exact kKnobs | exact kHeard | exact kEnter | refine eqPlain ?_ | refine eqLift ?_ | refine eqMake ?_ | skip))
  all_goals (as_aux_lemma => kernel_rfl)

/-- THE STATEMENT -/
theorem proved : Rows.FnPickSaid :=
  OpenClaim.holds_of_wide 8 Try.f8 rfl rfl rfl rfl rfl rfl rfl ⟨rfl, rfl, rfl, rfl, rfl⟩ rfl rfl rfl rfl rfl (by as_aux_lemma => kernel_rfl) Try.func8 closed
    (of_decide_eq_true (by as_aux_lemma => kernel_rfl)) (by unfold Func.isWrapper; first | (rw [if_pos (by decide +kernel)]; kernel_rfl) | (rw [if_neg (by decide +kernel)]; exact ⟨rfl, rfl⟩))
    (fun os started H enc _ => lifted os started H enc)
end Go.Proofs.Yticlgmdmkomdbaa.fnPick

/-
  Methods have their bytes: true for every code. Conditions: none.
-/
import Derived.Test.YticlgmdmkomdbaaKit
import Derived.Test.YticlgmdmkomdbaaDrawHello
import Derived.Test.YticlgmdmkomdbaaHelloFrom2
import Derived.Test.YticlgmdmkomdbaaFromLaw2
import Derived.Test.YticlgmdmkomdbaaBegin
namespace Go.Proofs.Yticlgmdmkomdbaa.fnHelloFrom
open Go.ChangeShapes Go.WideShapes Go.ChangeAt Go.RowKit

theorem begin_of {zs : List Int} (h : hfOk zs = true) : methodsOk (hfR zs) = true ∧ beginL zs (helloL (hfR zs)) = true ∧ hfC zs = ((helloL (hfR zs)).length : Int) := by
  have e : hfR zs = hfL zs := by rw [hfR, h]; rfl
  obtain ⟨h1, h2⟩ := hello_of_hf h
  have h3 := hfOk_three h
  have h4 : 2 + (zs.getD 1 0).toNat ≤ zs.length := by
    simp only [hfOk, Bool.and_eq_true, decide_eq_true_eq] at h
    exact h.1.2
  have hl : (zs.take (2 + (zs.getD 1 0).toNat)).length = 2 + (zs.getD 1 0).toNat := by rw [List.length_take]; omega
  rw [e, h2]
  refine ⟨h1, ?_, ?_⟩
  · rw [beginL, hl, decide_eq_true h4]
    simp
  · rw [hl, hfC, h]
    show 2 + zs.getD 1 0 = _
    omega

set_option maxRecDepth 100000 in
set_option maxHeartbeats 2000000 in
theorem walk (v : Value) (bs : List Int) (w : World) (hv : Came .u8 w w.heap.size v bs) : Calls Try.prog 22 #[v] w fun e w' => e = .returned (.bool true) ∧ Below w.heap.size w w' := by
  have hv0 := Lib.hid hv
  obtain ⟨A, c, rfl, hc, hm, _, _⟩ := hv
  by_cases hl : 1048576 < bs.length
  · have hl' : (1048576 : Int) < (bs.length : Int) := by omega
    go_enter Try.func22, Try.ntmps22
    go_wp2_with fail
    go_ret
    exact ⟨rfl, Below.refl _ _⟩
  · have hl' : (bs.length : Int) ≤ 1048576 := by omega
    clear hl
    go_enter Try.func22, Try.ntmps22
    go_wp2_with fail
    refine (DrawHelloFrom_any _ bs w hv0.out).mono ?_
    rintro e w1 ⟨v1, zs, rfl, i1, _, b1⟩
    have I1 := Lib.hid i1
    have B1 := Lib.hid b1
    clear i1 b1
    go_wp2_with fail
    refine (impl_HelloFrom_any _ zs _ I1.out).mono ?_
    rintro e w2 ⟨v2, rfl, o2, b2⟩
    have I2 := Lib.hid (I1.out.below b2)
    have O2 := Lib.hid o2.ints.zero
    have B2 := Lib.hid (B1.out.trans (b2.mono B1.out.size))
    clear b2 I1 o2
    go_wp2_with fail
    refine (spec_HelloFrom_any _ zs _ I2.out).mono ?_
    rintro e w3 ⟨v3, rfl, o3, b3⟩
    have I3 := Lib.hid (I2.out.below b3)
    have O23 := Lib.hid (O2.out.below b3)
    have O3 := Lib.hid o3.ints.zero
    have B3 := Lib.hid (B2.out.trans (b3.mono B2.out.size))
    clear b3 I2 o3 O2
    cases hok : hfOk zs
    · obtain ⟨x, hx⟩ : ∃ x, hfC zs = x := ⟨_, rfl⟩
      obtain ⟨L, hL⟩ : ∃ L, hfR zs = L := ⟨_, rfl⟩
      rw [hL] at O23 O3
      rw [hx]
      clear hx hok hL
      go_wp2_with fail
      refine (sameBytes_any _ _ L L _ O23.out O3.out).mono ?_
      rintro e w4 ⟨rfl, n4, rfl⟩
      go_wp2_with fail
      refine (sameBytes_any _ _ L L _ (O23.out.drewN _) (O3.out.drewN _)).mono ?_
      rintro e w5 ⟨rfl, n5, rfl⟩
      go_wp2_with fail
      go_ret
      exact ⟨rfl, below_drewN B3.out _⟩
    · have E := Lib.hid (begin_of hok)
      obtain ⟨x, hx⟩ : ∃ x, hfC zs = x := ⟨_, rfl⟩
      obtain ⟨L, hL⟩ : ∃ L, hfR zs = L := ⟨_, rfl⟩
      rw [hL] at O23 O3 E
      rw [hx] at E ⊢
      clear hx hok hL
      go_wp2_with fail
      refine (sameBytes_any _ _ L L _ O23.out O3.out).mono ?_
      rintro e w4 ⟨rfl, n4, rfl⟩
      go_wp2_with fail
      refine (impl_HelloBytes_any _ L _ (O23.out.drewN _)).mono ?_
      rintro e w5 ⟨v5, rfl, o5, b5⟩
      rw [E.out.1]
      have I5 := Lib.hid ((I3.out.drewN n4).below b5)
      have O5 := Lib.hid o5.ints.zero
      have B5 := Lib.hid ((below_drewN B3.out n4).trans (b5.mono (show _ ≤ _ from B3.out.size)))
      clear o5 b5 O23 O3 I3 B3
      obtain ⟨A5, c5, rfl, hc5, hm5, _⟩ := O5.out.open_
      have hxl : (((helloL L).length : Int) == x) = true := by rw [E.out.2.2]; simp
      go_wp2_with fail
      refine (isBegin_any _ _ zs (helloL L) _ I5.out O5.out).mono ?_
      rintro e w6 ⟨rfl, n6, rfl⟩
      rw [E.out.2.1]
      go_wp2_with fail
      go_ret
      exact ⟨rfl, below_drewN B5.out _⟩
set_option maxRecDepth 100000 in
theorem lifted (os : Os) (started : os.Started) (H : Type) (enc : TypeId × Value → H) :
    ReturnsInHanded {} Try.checked os 22 .any (Rows.fnHelloFromSpec.pre6 enc Try.prog Try.f22 Rows.fnHelloFromRow.domain false) (Rows.fnHelloFromSpec.post enc Try.prog Try.f22 false true false false) := by
  refine returnsInHanded_of_change (C := Try.checked) Try.own started (by kernel_rfl) Try.func22
    (ChangeSpec.witness6 (enc := enc) (C := Try.checked) false ⟨#[], #[.slice none 0 0], []⟩ 8 (by kernel_rfl) (by kernel_rfl) (by kernel_rfl) (by kernel_rfl)) ?_
  intro W base args ds gs before hval0 hW hcnd _
  have hval : ∀ (j : Nat) t v, Try.f22.params[j]? = some t → args[j]? = some v → Value.okWide Try.prog W .any base t v := hval0
  have hW' := hW
  obtain ⟨p, q, hA0, hV, rfl, hfz, hnd⟩ := hW
  have hA : DataW.TrodAll enc Try.prog W 0 (fun _ => true) true Try.f22.params.toList args.toList ds p := hA0
  rw [Try.params22] at hA hval
  obtain ⟨v0, vs0, d0, ds0, p0, q0, hargs, rfl, rfl, h0, r0⟩ := trodAll_cons hA
  obtain ⟨rfl, rfl, rfl⟩ := trodAll_nil r0
  obtain rfl : args = #[v0] := by cases args; simp_all
  obtain ⟨rfl, rfl⟩ := trodVars_none hV
  obtain ⟨a0, len0, cap0, rfl⟩ := okWide_slice Try.underlying27 (hval 0 27 v0 rfl rfl)
  have k0 := h0
  have lt0 : ∀ x ∈ p0, x.block < W.heap.size := by obtain ⟨m, hm⟩ := k0; exact DataW.trod_lt m _ _ _ hm
  obtain ⟨z0, w0⟩ : ∃ zs, IsRow .u8 W a0 len0 cap0 zs := by
    obtain ⟨fuel, hf⟩ := h0
    rcases open_ints Try.underlying27 Try.underlying5 (by kernel_rfl) hf with ⟨hcs, _⟩ | ⟨x, l, c, zs, hcs, _, hl, hm, hz, _, hcell, hwz⟩
    · simp [Value.cells] at hcs
      obtain ⟨rfl, rfl, rfl⟩ := hcs
      exact ⟨[], .inl ⟨rfl, rfl, rfl, rfl⟩⟩
    · simp [Value.cells] at hcs
      obtain ⟨rfl, rfl, rfl⟩ := hcs
      exact ⟨zs, .inr ⟨_, rfl, hl, hm, by simpa using hz, hcell, hwz⟩⟩
  clear hA0 hval0
  refine (walk (.slice a0 len0 cap0) _ W ((Came.of_row w0).1)).mono fun e W' ⟨he, bel⟩ => ?_
  subst he
  exact ⟨_, rfl, _, _, _, [], _, [], hW', trodAll_mk1 (shut_bool Try.underlying4 _), (trodAll_cons_mk (Below.trod Try.laidOut (by kernel_rfl) (of_decide_eq_true (by kernel_rfl)) k0 bel lt0) trodAll_mk0), rfl, bel.frame _, fun h => by cases h⟩

theorem closed : joinedFacts Try.prog 22 Try.f22 Rows.fnHelloFromSpec Rows.fnHelloFromRow = true := by
  unfold joinedFacts
  repeat' (with_reducible refine band ?_ ?_)
  all_goals (with_reducible (first | exact Try.laidOut | exact kMaps | exact kStops | exact kKnobs | exact kHeard | exact kEnter | refine eqPlain ?_ | refine eqLift ?_ | refine eqMake ?_ | skip))
  all_goals (as_aux_lemma => kernel_rfl)

/-- THE STATEMENT -/
theorem proved : Rows.FnHelloFromSaid :=
  OpenClaim.holds_of_wide 22 Try.f22 rfl rfl rfl rfl rfl rfl rfl ⟨rfl, rfl, rfl, rfl, rfl⟩ rfl rfl rfl rfl rfl (by as_aux_lemma => kernel_rfl) Try.func22 closed
    (of_decide_eq_true (by as_aux_lemma => kernel_rfl)) (by unfold Func.isWrapper; first | (rw [if_pos (by decide +kernel)]; kernel_rfl) | (rw [if_neg (by decide +kernel)]; exact ⟨rfl, rfl⟩))
    (fun os started H enc _ => lifted os started H enc)
end Go.Proofs.Yticlgmdmkomdbaa.fnHelloFrom

/-
  HelloFrom of the program returns what the reference's returns, leaves its argument as it was, and returns memory that it shares with nothing. Conditions: none.
-/
import Derived.Test.YticlgmdmkomdbaaKit
import Derived.Test.YticlgmdmkomdbaaHelloFrom2
import Derived.Test.YticlgmdmkomdbaaTexts
import Derived.Test.YticlgmdmkomdbaaMarks
import Derived.Test.YticlgmdmkomdbaaApart
namespace Go.Proofs.Yticlgmdmkomdbaa.fnExactHelloFrom
open Go.ChangeShapes Go.WideShapes Go.ChangeAt Go.RowKit

theorem hfR_len (zs : List Int) : (hfR zs).length ≤ 8 := by
  cases h : hfOk zs
  · rw [(hf_not h).1]; simp
  · rw [hfR, h]
    simp only [hfOk, Bool.and_eq_true] at h
    exact (methodsOk_len h.2).2

set_option maxRecDepth 100000 in
set_option maxHeartbeats 4000000 in
theorem walk (v : Value) (zs : List Int) (w : World) (hv : Came .i64 w w.heap.size v zs) : Calls Try.prog 14 #[v] w fun e w' => e = .returned (.bool true) ∧ Below w.heap.size w w' := by
  have hv0 := Lib.hid hv
  obtain ⟨A, c, rfl, hc, hm, _, _⟩ := hv
  by_cases hl : 1048576 < zs.length
  · have hl' : (1048576 : Int) < (zs.length : Int) := by omega
    go_enter Try.func14, Try.ntmps14
    go_wp2_with fail
    go_ret
    exact ⟨rfl, Below.refl _ _⟩
  have hl' : (zs.length : Int) ≤ 1048576 := by omega
  have hlen := hfR_len zs
  obtain ⟨R, hR⟩ : ∃ R, hfR zs = R := ⟨_, rfl⟩
  obtain ⟨C, hC⟩ : ∃ C, hfC zs = C := ⟨_, rfl⟩
  obtain ⟨K, hK⟩ : ∃ K, hfOk zs = K := ⟨_, rfl⟩
  have impl_ := fun u W h => impl_HelloFrom_any u zs W h
  have spec_ := fun u W h => spec_HelloFrom_any u zs W h
  rw [hR, hC, hK] at impl_ spec_
  have HI := Lib.hid impl_
  have HS := Lib.hid spec_
  rw [hR] at hlen
  clear hl hR hC hK impl_ spec_
  go_enter Try.func14, Try.ntmps14
  go_wp2_with fail
  refine (toIntS_any _ zs w.heap.size w hv0.out (Nat.le_refl _) (by omega)).mono ?_
  rintro e w1 ⟨u1, rfl, o1, b1⟩
  have O1 := Lib.hid o1
  have B1 := Lib.hid b1
  clear o1 b1
  go_wp2_with fail
  refine (HS.out _ _ O1.out.ints.zero).mono ?_
  rintro e w2 ⟨s2, rfl, o2, b2⟩
  have O2 := Lib.hid o2
  have B2 := Lib.hid (B1.out.trans (b2.mono B1.out.size))
  clear o2 b2 O1
  go_wp2_with fail
  refine (toIntS_any _ zs w.heap.size w2 (hv0.out.below B2.out) B2.out.size (by omega)).mono ?_
  rintro e w3 ⟨x3, rfl, o3, b3⟩
  have O3 := Lib.hid o3
  have O23 := Lib.hid (O2.out.below b3)
  have B3 := Lib.hid (B2.out.trans (b3.mono B2.out.size))
  clear o3 b3
  go_wp2_with fail
  refine (HI.out _ _ O3.out.ints.zero).mono ?_
  rintro e w4 ⟨g4, rfl, o4, b4⟩
  have O4 := Lib.hid o4
  have O24 := Lib.hid (O23.out.below b4)
  have O34 := Lib.hid (O3.out.below b4)
  have B4 := Lib.hid (B3.out.trans (b4.mono B3.out.size))
  have P23 := Lib.hid (O2.out.ahead O3.out)
  have P34 := Lib.hid (O3.out.past O4.out)
  have P24 := Lib.hid (O23.out.ahead O4.out)
  clear o4 b4 O2 O3 O23
  go_wp2_with fail
  refine (eqIntS_any _ _ R R _ O4.out.ints.zero O24.out.ints.zero).mono ?_
  rintro e w5 ⟨rfl, n5, rfl⟩
  go_wp2_with fail
  refine (toIntS_any _ zs w.heap.size _ (hv0.out.below (below_drewN B4.out n5)) (show _ ≤ _ from B4.out.size) (by omega)).mono ?_
  rintro e w6 ⟨u6, rfl, o6, b6⟩
  have O6 := Lib.hid o6
  have O26 := Lib.hid ((O24.out.drewN n5).below b6)
  have O36 := Lib.hid ((O34.out.drewN n5).below b6)
  have O46 := Lib.hid ((O4.out.drewN n5).below b6)
  have B6 := Lib.hid ((below_drewN B4.out n5).trans (b6.mono (show _ ≤ _ from B4.out.size)))
  clear o6 b6 O24 O34 O4
  go_wp2_with fail
  refine (eqIntS_any _ _ zs zs _ O36.out.ints.zero O6.out.ints.zero).mono ?_
  rintro e w7 ⟨rfl, n7, rfl⟩
  go_wp2_with fail
  refine (markIntS_any _ zs _ 1 _ (O36.out.ints.drewN n7) (by omega) (by omega) (by omega)).mono ?_
  rintro e w8 ⟨rfl, _, g8⟩
  have O28 := Lib.hid ((O26.out.drewN n7).keep g8 P23.out)
  have O48 := Lib.hid ((O46.out.drewN n7).keep g8 P34.out)
  have hs2 := B2.out.size
  have hs6 := B6.out.size
  have B8 := Lib.hid ((below_drewN B6.out n7).trans (below_own ((O36.out.drewN n7).more hs2) g8 (show _ ≤ _ from hs6)))
  clear g8 O26 O36 O46 O6
  have hk8 : ¬ (1 + (zs.length : Int) < 0) := by omega
  go_wp2_with fail
  refine (eqIntS_any _ _ R R _ O48.out.ints.zero O28.out.ints.zero).mono ?_
  rintro e w9 ⟨rfl, n9, rfl⟩
  go_wp2_with fail
  refine (markIntS_any _ R _ 1 _ (O48.out.ints.drewN n9) (by omega) (by omega) (by omega)).mono ?_
  rintro e w10 ⟨rfl, i10, g10⟩
  have O210 := Lib.hid ((O28.out.drewN n9).keep g10 P24.out)
  have I10 := Lib.hid i10
  have hs3 := B3.out.size
  have hs8 := B8.out.size
  have B10 := Lib.hid ((below_drewN B8.out n9).trans (below_own ((O48.out.drewN n9).more hs3) g10 (show _ ≤ _ from hs8)))
  clear g10 i10 O28 O48
  go_wp2_with fail
  refine (heldIntS_any _ 1 R.length _ I10.out.zero (by omega) (by omega) (by omega)).mono ?_
  rintro e w11 ⟨rfl, rfl⟩
  have hk10 : ¬ (1 + (R.length : Int) < 0) := by omega
  go_wp2_with fail
  refine (toIntS_any _ zs w.heap.size _ (hv0.out.below B10.out) B10.out.size (by omega)).mono ?_
  rintro e w12 ⟨u12, rfl, o12, b12⟩
  have O12 := Lib.hid o12
  have O212 := Lib.hid (O210.out.below b12)
  have I12 := Lib.hid (I10.out.below b12)
  have B12 := Lib.hid (B10.out.trans (b12.mono B10.out.size))
  clear o12 b12 O210 I10
  go_wp2_with fail
  refine (HI.out _ _ O12.out.ints.zero).mono ?_
  rintro e w13 ⟨h13, rfl, o13, b13⟩
  have O13 := Lib.hid o13
  have O213 := Lib.hid (O212.out.below b13)
  have I13 := Lib.hid (I12.out.below b13)
  have B13 := Lib.hid (B12.out.trans (b13.mono B12.out.size))
  clear o13 b13 O212 I12 O12
  go_wp2_with fail
  refine (eqIntS_any _ _ R R _ O13.out.ints.zero O213.out.ints.zero).mono ?_
  rintro e w14 ⟨rfl, n14, rfl⟩
  go_wp2_with fail
  refine (heldIntS_any _ 1 R.length _ (I13.out.drewN n14).zero (by omega) (by omega) (by omega)).mono ?_
  rintro e w15 ⟨rfl, rfl⟩
  go_wp2_with fail
  go_ret
  exact ⟨rfl, below_drewN B13.out _⟩
set_option maxRecDepth 100000 in
theorem lifted (os : Os) (started : os.Started) (H : Type) (enc : TypeId × Value → H) :
    ReturnsInHanded {} Try.checked os 14 .any (Rows.fnExactHelloFromSpec.pre6 enc Try.prog Try.f14 Rows.fnExactHelloFromRow.domain false) (Rows.fnExactHelloFromSpec.post enc Try.prog Try.f14 false true false false) := by
  refine returnsInHanded_of_change (C := Try.checked) Try.own started (by kernel_rfl) Try.func14
    (ChangeSpec.witness6 (enc := enc) (C := Try.checked) false ⟨#[], #[.slice none 0 0], []⟩ 8 (by kernel_rfl) (by kernel_rfl) (by kernel_rfl) (by kernel_rfl)) ?_
  intro W base args ds gs before hval0 hW hcnd _
  have hval : ∀ (j : Nat) t v, Try.f14.params[j]? = some t → args[j]? = some v → Value.okWide Try.prog W .any base t v := hval0
  have hW' := hW
  obtain ⟨p, q, hA0, hV, rfl, hfz, hnd⟩ := hW
  have hA : DataW.TrodAll enc Try.prog W 0 (fun _ => true) true Try.f14.params.toList args.toList ds p := hA0
  rw [Try.params14] at hA hval
  obtain ⟨v0, vs0, d0, ds0, p0, q0, hargs, rfl, rfl, h0, r0⟩ := trodAll_cons hA
  obtain ⟨rfl, rfl, rfl⟩ := trodAll_nil r0
  obtain rfl : args = #[v0] := by cases args; simp_all
  obtain ⟨rfl, rfl⟩ := trodVars_none hV
  obtain ⟨a0, len0, cap0, rfl⟩ := okWide_slice Try.underlying22 (hval 0 22 v0 rfl rfl)
  have k0 := h0
  have lt0 : ∀ x ∈ p0, x.block < W.heap.size := by obtain ⟨m, hm⟩ := k0; exact DataW.trod_lt m _ _ _ hm
  obtain ⟨z0, w0⟩ : ∃ zs, IsRow .i64 W a0 len0 cap0 zs := by
    obtain ⟨fuel, hf⟩ := h0
    rcases open_ints Try.underlying22 Try.underlying3 (by kernel_rfl) hf with ⟨hcs, _⟩ | ⟨x, l, c, zs, hcs, _, hl, hm, hz, _, hcell, hwz⟩
    · simp [Value.cells] at hcs
      obtain ⟨rfl, rfl, rfl⟩ := hcs
      exact ⟨[], .inl ⟨rfl, rfl, rfl, rfl⟩⟩
    · simp [Value.cells] at hcs
      obtain ⟨rfl, rfl, rfl⟩ := hcs
      exact ⟨zs, .inr ⟨_, rfl, hl, hm, by simpa using hz, hcell, hwz⟩⟩
  clear hA0 hval0
  refine (walk (.slice a0 len0 cap0) _ W ((Came.of_row w0).1)).mono fun e W' ⟨he, bel⟩ => ?_
  subst he
  exact ⟨_, rfl, _, _, _, [], _, [], hW', trodAll_mk1 (shut_bool Try.underlying4 _), (trodAll_cons_mk (Below.trod Try.laidOut (by kernel_rfl) (of_decide_eq_true (by kernel_rfl)) k0 bel lt0) trodAll_mk0), rfl, bel.frame _, fun h => by cases h⟩

theorem closed : joinedFacts Try.prog 14 Try.f14 Rows.fnExactHelloFromSpec Rows.fnExactHelloFromRow = true := by
  unfold joinedFacts
  repeat' (with_reducible refine band ?_ ?_)
  all_goals (with_reducible (first | exact Try.laidOut | exact kMaps | exact kStops | exact kKnobs | exact kHeard | exact kEnter | refine eqPlain ?_ | refine eqLift ?_ | refine eqMake ?_ | skip))
  all_goals (as_aux_lemma => kernel_rfl)

/-- THE STATEMENT -/
theorem proved : Rows.FnExactHelloFromSaid :=
  OpenClaim.holds_of_wide 14 Try.f14 rfl rfl rfl rfl rfl rfl rfl ⟨rfl, rfl, rfl, rfl, rfl⟩ rfl rfl rfl rfl rfl (by as_aux_lemma => kernel_rfl) Try.func14 closed
    (of_decide_eq_true (by as_aux_lemma => kernel_rfl)) (by unfold Func.isWrapper; first | (rw [if_pos (by decide +kernel)]; kernel_rfl) | (rw [if_neg (by decide +kernel)]; exact ⟨rfl, rfl⟩))
    (fun os started H enc _ => lifted os started H enc)
end Go.Proofs.Yticlgmdmkomdbaa.fnExactHelloFrom

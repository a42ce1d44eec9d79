/-
  AnswerFrom of the program returns what the reference's returns, for all arguments. Conditions: none.
-/
import Derived.Test.YtifljfnngbapdaaDoorKitC
import Derived.Test.YtifljfnngbapdaaDoorAnsLaid
import Derived.ChangeMaps5
namespace Go.Proofs.YtifljfnngbapdaaDoor.fnExactAnswerFrom
open Go.ChangeShapes Go.WideShapes Go.ChangeAt Go.RowKit Go.ChangeMaps

set_option maxRecDepth 100000 in
set_option maxHeartbeats 4000000 in
theorem walk (s : ByteArray) (w : World) (_hs : s.size ≤ maxLen) (ht : Tabs w) (hA : Ans w) : Calls Tryd.prog 4 #[.string s] w fun e w' => e = .returned (.bool true) ∧ Below w.heap.size w w' := by
  have HT := Lib.hid ht
  have HA := Lib.hid hA
  clear ht hA
  obtain ⟨z, hz⟩ : ∃ z, s.size = z := ⟨_, rfl⟩
  by_cases hl : 1048576 < z
  · have hl' : (1048576 : Int) < (z : Int) := by omega
    clear _hs hl
    go_enter Tryd.func4, Tryd.ntmps4
    go_wp2_with fail
    go_ret
    exact ⟨rfl, Below.refl _ _⟩
  have hl' : (z : Int) ≤ 1048576 := by omega
  clear _hs hl
  obtain ⟨C, hC⟩ : ∃ C, ansC s = C := ⟨_, rfl⟩
  obtain ⟨U, hU⟩ : ∃ U, ansU s = U := ⟨_, rfl⟩
  obtain ⟨O, hO⟩ : ∃ O, ansO s = O := ⟨_, rfl⟩
  have EC := Lib.hid hC
  have EU := Lib.hid hU
  have EO := Lib.hid hO
  clear hC hU hO
  go_enter Tryd.func4, Tryd.ntmps4
  go_wp2_with fail
  refine (spec_AnswerFrom_any s _).mono ?_
  rintro e w1 ⟨rfl, b1⟩
  rw [EC.out, EU.out, EO.out]
  have B1 := Lib.hid b1
  clear b1
  go_wp2_with fail
  refine (impl_AnswerFrom_any s _ (HA.out.below B1.out) (HT.out.below B1.out)).mono ?_
  rintro e w2 ⟨rfl, b2⟩
  rw [EC.out, EU.out, EO.out]
  have B2 := Lib.hid (B1.out.trans (b2.mono B1.out.size))
  clear b2
  go_wp2_with fail
  go_ret
  exact ⟨by simp, B2.out⟩

set_option maxRecDepth 100000 in
theorem lifted (os : Os) (started : os.Started) (H : Type) (enc : TypeId × Value → H) :
    ReturnsInHanded {} Tryd.checked os 4 .any (fun w args => (Rows.fnExactAnswerFromSpec.pre enc Tryd.prog Tryd.f4 Rows.fnExactAnswerFromRow.domain false w args ∧ laidMetH Tryd.prog Rows.fnExactAnswerFromRow.laid w) ∧ sizedMet enc Tryd.prog Tryd.f4 (OpenSpec.ofChange Rows.fnExactAnswerFromSpec) false w args) (Rows.fnExactAnswerFromSpec.post enc Tryd.prog Tryd.f4 false true false false) := by
  refine returnsInHanded_of_change_and (C := Tryd.checked) (X := fun w _ => laidMetH Tryd.prog Rows.fnExactAnswerFromRow.laid w) (fun _ _ _ hh h => h.of_heap hh) Tryd.own started (by kernel_rfl) Tryd.func4
    (ChangeSpec.witness_shaped (enc := enc) (C := Tryd.checked) (os := os) (X := fun w _ => laidMetH Tryd.prog Rows.fnExactAnswerFromRow.laid w) false (World.laidAll Tryd.prog os Rows.fnExactAnswerFromRow.laid) #[.string .empty] 8 (World.laidAll_os _ _ _)
      (World.shaped_of_ZipB (by kernel_rfl) (by kernel_rfl)) (by kernel_rfl) (by kernel_rfl) (by kernel_rfl)
      (by rw [MakeChecks.laidMetH_plain _ _ _ (by kernel_rfl)]; exact laidMet_laidAll _ (by kernel_rfl) (by kernel_rfl))) ?_
  intro W base args ds gs before hval0 hW hcnd _ hL _
  rw [MakeChecks.laidMetH_plain _ _ _ (by kernel_rfl)] at hL
  have hT : Tabs W := Tabs.of_laid _ rfl hL
  have hN : Ans W := Ans.of_laid _ rfl hL
  clear hL
  have hval : ∀ (j : Nat) t v, Tryd.f4.params[j]? = some t → args[j]? = some v → Value.okWide Tryd.prog W .any base t v := hval0
  have hW' := hW
  obtain ⟨p, q, hA0, hV, rfl, hfz, hnd⟩ := hW
  have hA : DataW.TrodAll enc Tryd.prog W 0 (fun _ => true) true Tryd.f4.params.toList args.toList ds p := hA0
  rw [Tryd.params4] at hA hval
  obtain ⟨v0, vs0, d0, ds0, p0, q0, hargs, rfl, rfl, h0, r0⟩ := trodAll_cons hA
  obtain ⟨rfl, rfl, rfl⟩ := trodAll_nil r0
  obtain rfl : args = #[v0] := by cases args; simp_all
  have hV0 := hV
  obtain ⟨_, _, _, _, dg, _, rfl, _⟩ := trodVars_one hV0
  clear hV0
  obtain ⟨a0, rfl, rfl, rfl, w0⟩ := open_string Tryd.underlying9 (hval 0 9 v0 rfl rfl) h0
  clear hA0 hval0
  refine (walk a0 W (w0) hT hN).mono fun e W' ⟨he, bel⟩ => ?_
  subst he
  exact ⟨_, rfl, _, _, _, [], _, _, hW', trodAll_mk1 (shut_bool Tryd.underlying4 _), (trodAll_cons_mk (shut_string Tryd.underlying9 w0) trodAll_mk0), (Below.trodVars Tryd.laidOut bel (by kernel_rfl) hV), bel.frame _, fun h => by cases h⟩

theorem closed : joinedFacts Tryd.prog 4 Tryd.f4 Rows.fnExactAnswerFromSpec Rows.fnExactAnswerFromRow = true := by
  unfold joinedFacts
  repeat' (with_reducible refine band ?_ ?_)
  all_goals (with_reducible (first | exact Tryd.laidOut | exact kMaps | exact kStops | exact kKnobs | exact kHeard | exact kEnter | refine eqPlain ?_ | refine eqLift ?_ | refine eqMake ?_ | skip))
  all_goals (as_aux_lemma => kernel_rfl)

/-- The row -/
theorem row_holds : Rows.FnExactAnswerFromSaid :=
  OpenClaim.holds_of_wide 4 Tryd.f4 rfl rfl rfl rfl rfl rfl rfl ⟨rfl, rfl, rfl, rfl, rfl⟩ rfl rfl rfl rfl rfl (by as_aux_lemma => kernel_rfl) Tryd.func4 closed
    (of_decide_eq_true (by as_aux_lemma => kernel_rfl)) (by unfold Func.isWrapper; first | (rw [if_pos (by decide +kernel)]; kernel_rfl) | (rw [if_neg (by decide +kernel)]; exact ⟨rfl, rfl⟩))
    (fun os started H enc _ => lifted os started H enc)

set_option maxRecDepth 100000 in
/-- THE STATEMENT -/
theorem proved : Rows.FnExactAnswerFromCardSaid :=
  Claim7.holds_tied_plain_at .later [] [.data, .data, .data, .widerDeep] true (true, "b20908bc011872177533614467890bccf72ff68b5b5d33e65ac1023722efc054") false row_holds (fun _ h => by cases h) (by as_aux_lemma => kernel_rfl) (fun _ h => by cases h) fnExactAnswerFrom_row_tie rfl ⟨rfl, rfl⟩ (by as_aux_lemma => kernel_rfl) rfl
    (fun f fn hf hfn => by
      obtain rfl : f = 4 := Option.some.inj ((show Tryd.prog.funcNamed "loop.example/proxyframes/laws.FnExactAnswerFrom" = some 4 by kernel_rfl).symm.trans hf) |>.symm
      obtain rfl : fn = Tryd.f4 := (Option.some.inj (Tryd.func4.symm.trans hfn)).symm
      exact ⟨by kernel_rfl, fun j t ht => by
        rw [Tryd.params4] at ht
        have hm : t ∈ [9] := by simpa using Array.mem_of_getElem? ht
        have hall : ([9].all fun u => !Tryd.prog.wantsStandIn u) = true := by kernel_rfl
        exact (show Tryd.prog.wantsStandIn t = false by simpa using List.all_eq_true.1 hall t hm)⟩)
    (by as_aux_lemma => kernel_rfl)
end Go.Proofs.YtifljfnngbapdaaDoor.fnExactAnswerFrom

/-
  A code has its answer: true for every code. Conditions: none.
-/
import Derived.Test.YtifljfnngbapdaaDoorKitC
import Derived.Test.YtifljfnngbapdaaDoorAnsLaid
import Derived.ChangeMaps5
import Derived.Test.YtifljfnngbapdaaDoorAnsDraw
namespace Go.Proofs.YtifljfnngbapdaaDoor.fnAnswerFrom
open Go.ChangeShapes Go.WideShapes Go.ChangeAt Go.RowKit Go.ChangeMaps

set_option maxRecDepth 100000 in
set_option maxHeartbeats 4000000 in
theorem walk (v : Value) (bs : List Int) (w : World) (hv : Came .u8 w w.heap.size v bs) (ht : Tabs w) (hA : Ans w) : Calls Tryd.prog 7 #[v] w fun e w' => e = .returned (.bool true) ∧ Below w.heap.size w w' := by
  have hv0 := Lib.hid hv
  have T0 := Lib.hid ht
  have A0 := Lib.hid hA
  clear ht hA
  obtain ⟨A, c, rfl, hc, hm, _, _⟩ := hv
  by_cases hl : 1048576 < bs.length
  · have hl' : (1048576 : Int) < (bs.length : Int) := by omega
    go_enter Tryd.func7, Tryd.ntmps7
    go_wp2_with fail
    go_ret
    exact ⟨rfl, Below.refl _ _⟩
  have hl' : (bs.length : Int) ≤ 1048576 := by omega
  clear hl
  go_enter Tryd.func7, Tryd.ntmps7
  go_wp2_with fail
  refine (DrawAnswerFrom_any _ bs w hv0.out).mono ?_
  rintro e w1 ⟨s, rfl, hs, b1⟩
  have B1 := Lib.hid b1
  clear b1
  obtain ⟨C, hC⟩ : ∃ C, ansC s = C := ⟨_, rfl⟩
  obtain ⟨U, hU⟩ : ∃ U, ansU s = U := ⟨_, rfl⟩
  rcases ans_either s with ⟨k, hk, _, i2, i3, i4, i5⟩ | ⟨_, _, _, i4⟩
  · obtain ⟨j, wd, _, hN, _, _, hne, hT⟩ := ans_at k hk
    have hne2 : (ansT (ansN k)).toList.isEmpty = false := by
      match k, hk with
      | 0, _ => exact not_none (by decide)
      | 1, _ => exact not_none (by decide)
      | 2, _ => exact not_none (by decide)
      | 3, _ => exact not_none (by decide)
    rw [← i2, hC] at i3 i5 hne2
    obtain ⟨T, hTT⟩ : ∃ T, ansT C = T := ⟨_, rfl⟩
    rw [hTT] at i3 i5 hne2
    have hTK := beg_take i5
    have hle : T.size ≤ s.size := by
      have h := congrArg ByteArray.size hTK
      rw [ByteArray.size_extract] at h
      omega
    obtain ⟨z, hz⟩ : ∃ z, T.size = z := ⟨_, rfl⟩
    obtain ⟨y, hy⟩ : ∃ y, s.size = y := ⟨_, rfl⟩
    have hz0 : 0 < z := by
      rw [← hz]
      rcases Nat.eq_zero_or_pos T.size with h | h
      · have : T = ⟨#[]⟩ := ByteArray.ext (Array.eq_empty_of_size_eq_zero h)
        rw [this, show (⟨#[]⟩ : ByteArray) = ByteArray.empty from rfl, none_empty] at hne2
        cases hne2
      · exact h
    rw [hz] at i3 hTK hle
    rw [hy] at hle hs
    rw [hU] at i3
    subst i3
    have hzy : (z : Int) ≤ (y : Int) := by omega
    have EC := Lib.hid hC
    have EU := Lib.hid hU
    have EO := Lib.hid i4
    have ET := Lib.hid hTT
    clear hC hU i2 i4 i5 hN hne hT hTT hk
    go_wp2_with fail
    refine (impl_AnswerFrom_any s _ (A0.out.below B1.out) (T0.out.below B1.out)).mono ?_
    rintro e w2 ⟨rfl, b2⟩
    rw [EC.out, EU.out, EO.out]
    have B2 := Lib.hid (B1.out.trans (b2.mono B1.out.size))
    clear b2
    go_wp2_with fail
    refine (spec_AnswerFrom_any s _).mono ?_
    rintro e w3 ⟨rfl, b3⟩
    rw [EC.out, EU.out, EO.out]
    have B3 := Lib.hid (B2.out.trans (b3.mono B2.out.size))
    clear b3
    go_wp2_with fail
    refine (impl_AnswerText_any C _ (A0.out.below B3.out) (T0.out.below B3.out)).mono ?_
    rintro e w4 ⟨rfl, b4⟩
    rw [ET.out]
    have B4 := Lib.hid (B3.out.trans (b4.mono B3.out.size))
    clear b4
    go_wp2_with fail
    go_ret
    exact ⟨by simp, B4.out⟩
  · have EC := Lib.hid hC
    have EU := Lib.hid hU
    have EO := Lib.hid i4
    clear hC hU i4
    go_wp2_with fail
    refine (impl_AnswerFrom_any s _ (A0.out.below B1.out) (T0.out.below B1.out)).mono ?_
    rintro e w2 ⟨rfl, b2⟩
    rw [EC.out, EU.out, EO.out]
    have B2 := Lib.hid (B1.out.trans (b2.mono B1.out.size))
    clear b2
    go_wp2_with fail
    refine (spec_AnswerFrom_any s _).mono ?_
    rintro e w3 ⟨rfl, b3⟩
    rw [EC.out, EU.out, EO.out]
    have B3 := Lib.hid (B2.out.trans (b3.mono B2.out.size))
    clear b3
    go_wp2_with fail
    go_ret
    exact ⟨by simp, B3.out⟩

set_option maxRecDepth 100000 in
theorem lifted (os : Os) (started : os.Started) (H : Type) (enc : TypeId × Value → H) :
    ReturnsInHanded {} Tryd.checked os 7 .any (fun w args => (Rows.fnAnswerFromSpec.pre enc Tryd.prog Tryd.f7 Rows.fnAnswerFromRow.domain false w args ∧ laidMetH Tryd.prog Rows.fnAnswerFromRow.laid w) ∧ sizedMet enc Tryd.prog Tryd.f7 (OpenSpec.ofChange Rows.fnAnswerFromSpec) false w args) (Rows.fnAnswerFromSpec.post enc Tryd.prog Tryd.f7 false true false false) := by
  refine returnsInHanded_of_change_and (C := Tryd.checked) (X := fun w _ => laidMetH Tryd.prog Rows.fnAnswerFromRow.laid w) (fun _ _ _ hh h => h.of_heap hh) Tryd.own started (by kernel_rfl) Tryd.func7
    (ChangeSpec.witness_shaped (enc := enc) (C := Tryd.checked) (os := os) (X := fun w _ => laidMetH Tryd.prog Rows.fnAnswerFromRow.laid w) false (World.laidAll Tryd.prog os Rows.fnAnswerFromRow.laid) #[.slice none 0 0] 8 (World.laidAll_os _ _ _)
      (World.shaped_of_ZipB (by kernel_rfl) (by kernel_rfl)) (by kernel_rfl) (by kernel_rfl) (by kernel_rfl)
      (by rw [MakeChecks.laidMetH_plain _ _ _ (by kernel_rfl)]; exact laidMet_laidAll _ (by kernel_rfl) (by kernel_rfl))) ?_
  intro W base args ds gs before hval0 hW hcnd _ hL _
  rw [MakeChecks.laidMetH_plain _ _ _ (by kernel_rfl)] at hL
  have hT : Tabs W := Tabs.of_laid _ rfl hL
  have hN : Ans W := Ans.of_laid _ rfl hL
  clear hL
  have hval : ∀ (j : Nat) t v, Tryd.f7.params[j]? = some t → args[j]? = some v → Value.okWide Tryd.prog W .any base t v := hval0
  have hW' := hW
  obtain ⟨p, q, hA0, hV, rfl, hfz, hnd⟩ := hW
  have hA : DataW.TrodAll enc Tryd.prog W 0 (fun _ => true) true Tryd.f7.params.toList args.toList ds p := hA0
  rw [Tryd.params7] at hA hval
  obtain ⟨v0, vs0, d0, ds0, p0, q0, hargs, rfl, rfl, h0, r0⟩ := trodAll_cons hA
  obtain ⟨rfl, rfl, rfl⟩ := trodAll_nil r0
  obtain rfl : args = #[v0] := by cases args; simp_all
  have hV0 := hV
  obtain ⟨_, _, _, _, dg, _, rfl, _⟩ := trodVars_one hV0
  clear hV0
  obtain ⟨a0, len0, cap0, rfl⟩ := okWide_slice Tryd.underlying27 (hval 0 27 v0 rfl rfl)
  have k0 := h0
  have lt0 : ∀ x ∈ p0, x.block < W.heap.size := by obtain ⟨m, hm⟩ := k0; exact DataW.trod_lt m _ _ _ hm
  obtain ⟨z0, w0⟩ : ∃ zs, IsRow .u8 W a0 len0 cap0 zs := by
    obtain ⟨fuel, hf⟩ := h0
    rcases open_ints Tryd.underlying27 Tryd.underlying5 (by kernel_rfl) hf with ⟨hcs, _⟩ | ⟨x, l, c, zs, hcs, _, hl, hm, hz, _, hcell, hwz⟩
    · simp [Value.cells] at hcs
      obtain ⟨rfl, rfl, rfl⟩ := hcs
      exact ⟨[], .inl ⟨rfl, rfl, rfl, rfl⟩⟩
    · simp [Value.cells] at hcs
      obtain ⟨rfl, rfl, rfl⟩ := hcs
      exact ⟨zs, .inr ⟨_, rfl, hl, hm, by simpa using hz, hcell, hwz⟩⟩
  clear hA0 hval0
  refine (walk (.slice a0 len0 cap0) _ W ((Came.of_row w0).1) hT hN).mono fun e W' ⟨he, bel⟩ => ?_
  subst he
  exact ⟨_, rfl, _, _, _, [], _, _, hW', trodAll_mk1 (shut_bool Tryd.underlying4 _), (trodAll_cons_mk (Below.trod Tryd.laidOut (by kernel_rfl) (of_decide_eq_true (by kernel_rfl)) k0 bel lt0) trodAll_mk0), (Below.trodVars Tryd.laidOut bel (by kernel_rfl) hV), bel.frame _, fun h => by cases h⟩

theorem closed : joinedFacts Tryd.prog 7 Tryd.f7 Rows.fnAnswerFromSpec Rows.fnAnswerFromRow = true := by
  unfold joinedFacts
  repeat' (with_reducible refine band ?_ ?_)
  all_goals (with_reducible (first | exact Tryd.laidOut | exact kMaps | exact kStops | exact kKnobs | exact kHeard | exact kEnter | refine eqPlain ?_ | refine eqLift ?_ | refine eqMake ?_ | skip))
  all_goals (as_aux_lemma => kernel_rfl)

/-- The row -/
theorem row_holds : Rows.FnAnswerFromSaid :=
  OpenClaim.holds_of_wide 7 Tryd.f7 rfl rfl rfl rfl rfl rfl rfl ⟨rfl, rfl, rfl, rfl, rfl⟩ rfl rfl rfl rfl rfl (by as_aux_lemma => kernel_rfl) Tryd.func7 closed
    (of_decide_eq_true (by as_aux_lemma => kernel_rfl)) (by unfold Func.isWrapper; first | (rw [if_pos (by decide +kernel)]; kernel_rfl) | (rw [if_neg (by decide +kernel)]; exact ⟨rfl, rfl⟩))
    (fun os started H enc _ => lifted os started H enc)

set_option maxRecDepth 100000 in
/-- THE STATEMENT -/
theorem proved : Rows.FnAnswerFromCardSaid :=
  Claim7.holds_tied_plain_at .later [] [.data, .data, .data, .widerDeep] true (true, "b20908bc011872177533614467890bccf72ff68b5b5d33e65ac1023722efc054") false row_holds (fun _ h => by cases h) (by as_aux_lemma => kernel_rfl) (fun _ h => by cases h) fnAnswerFrom_row_tie rfl ⟨rfl, rfl⟩ (by as_aux_lemma => kernel_rfl) rfl
    (fun f fn hf hfn => by
      obtain rfl : f = 7 := Option.some.inj ((show Tryd.prog.funcNamed "loop.example/proxyframes/laws.FnAnswerFrom" = some 7 by kernel_rfl).symm.trans hf) |>.symm
      obtain rfl : fn = Tryd.f7 := (Option.some.inj (Tryd.func7.symm.trans hfn)).symm
      exact ⟨by kernel_rfl, fun j t ht => by
        rw [Tryd.params7] at ht
        have hm : t ∈ [27] := by simpa using Array.mem_of_getElem? ht
        have hall : ([27].all fun u => !Tryd.prog.wantsStandIn u) = true := by kernel_rfl
        exact (show Tryd.prog.wantsStandIn t = false by simpa using List.all_eq_true.1 hall t hm)⟩)
    (by as_aux_lemma => kernel_rfl)
end Go.Proofs.YtifljfnngbapdaaDoor.fnAnswerFrom

/-
  A part of an answer is none: true for every code. Conditions: none.
-/
import Derived.Test.YtifljfnngbapdaaDoorKitC
import Derived.Test.YtifljfnngbapdaaDoorAnsLaid
import Derived.ChangeMaps5
import Derived.Test.YtifljfnngbapdaaDoorAnsDraw
namespace Go.Proofs.YtifljfnngbapdaaDoor.fnAnswerCut
open Go.ChangeShapes Go.WideShapes Go.ChangeAt Go.RowKit Go.ChangeMaps

/-- A part of an answer is no answer. -/
theorem cut_none {n : Int} {T : ByteArray} (h : ansT n = T) (hne : T.toList.isEmpty = false) : 0 < T.size ∧ ∀ k, k < T.size → ansO (T.extract 0 k) = false := by
  subst h
  rcases ans_cases n with rfl | rfl | rfl | rfl | h
  · exact ⟨by decide, by decide +kernel⟩
  · exact ⟨by decide, by decide +kernel⟩
  · exact ⟨by decide, by decide +kernel⟩
  · exact ⟨by decide, by decide +kernel⟩
  · rw [ansT_none h, none_empty] at hne
    cases hne

set_option maxRecDepth 100000 in
set_option maxHeartbeats 4000000 in
theorem walk (v : Value) (bs : List Int) (u : Value) (ms : List Int) (w : World) (hv : Came .u8 w w.heap.size v bs) (hu : Came .u8 w w.heap.size u ms) (ht : Tabs w) (hA : Ans w) : Calls Tryd.prog 6 #[v, u] w fun e w' => e = .returned (.bool true) ∧ Below w.heap.size w w' := by
  have hv0 := Lib.hid hv
  have T0 := Lib.hid ht
  have A0 := Lib.hid hA
  clear ht hA
  obtain ⟨A, c, rfl, hc, hm, _, _⟩ := hv
  by_cases hl : 1048576 < bs.length
  · have hl' : (1048576 : Int) < (bs.length : Int) := by omega
    go_enter Tryd.func6, Tryd.ntmps6
    go_wp2_with fail
    go_ret
    exact ⟨rfl, Below.refl _ _⟩
  have hl' : (bs.length : Int) ≤ 1048576 := by omega
  clear hl
  obtain ⟨A', c', rfl, hc', hm', _, _⟩ := hu
  by_cases hk : 1048576 < ms.length
  · have hk' : (1048576 : Int) < (ms.length : Int) := by omega
    go_enter Tryd.func6, Tryd.ntmps6
    go_wp2_with fail
    go_ret
    exact ⟨rfl, Below.refl _ _⟩
  have hk' : (ms.length : Int) ≤ 1048576 := by omega
  clear hk
  go_enter Tryd.func6, Tryd.ntmps6
  go_wp2_with fail
  refine (DrawAnswerText_any _ bs w hv0.out).mono ?_
  rintro e w1 ⟨n, rfl, b1⟩
  have B1 := Lib.hid b1
  clear b1
  obtain ⟨T, hT⟩ : ∃ T, ansT n = T := ⟨_, rfl⟩
  have E := Lib.hid hT
  clear hT
  go_wp2_with fail
  refine (impl_AnswerText_any n _ (A0.out.below B1.out) (T0.out.below B1.out)).mono ?_
  rintro e w2 ⟨rfl, b2⟩
  rw [E.out]
  have B2 := Lib.hid (B1.out.trans (b2.mono B1.out.size))
  clear b2
  go_wp2_with fail
  refine (spec_AnswerText_any n _).mono ?_
  rintro e w3 ⟨rfl, b3⟩
  rw [E.out]
  have B3 := Lib.hid (B2.out.trans (b3.mono B2.out.size))
  clear b3
  rcases Bool.eq_false_or_eq_true T.toList.isEmpty with hne | hne
  · go_wp2_with fail
    go_ret
    exact ⟨by simp, B3.out⟩
  have hsz : T.size ≤ 21 := by rw [← E.out]; exact ansT_size n
  have hCut := Lib.hid (cut_none E.out hne)
  have hpos := hCut.out.1
  obtain ⟨n', hn'⟩ : ∃ n', T.size = n' := ⟨_, rfl⟩
  obtain ⟨m, hmm⟩ : ∃ m, ms.length = m := ⟨_, rfl⟩
  rw [hn'] at hpos hsz
  have hk : m % n' < n' := Nat.mod_lt _ (by omega)
  have EM : Hid ((m : Int) % (n' : Int) = ((m % n' : Nat) : Int)) := Lib.hid (by simp)
  obtain ⟨k, hkk⟩ : ∃ k, m % n' = k := ⟨_, rfl⟩
  rw [hkk] at hk EM
  have EK := Lib.hid (hCut.out.2 k (by rw [hn']; exact hk))
  have EM2 : (m : Int).tmod (n' : Int) = (k : Int) := by rw [Int.tmod_eq_emod_of_nonneg (Int.natCast_nonneg _)]; exact EM.out
  have EM3 : (m : Int) % (n' : Int) = (k : Int) := EM.out
  have hkc : (k : Int) ≤ (n' : Int) := by omega
  have hn1 : (1 : Int) ≤ (n' : Int) := by omega
  have hn0 : ¬ n' = 0 := by omega
  rw [hmm] at hk'
  clear hkk hCut
  obtain ⟨C, hC⟩ : ∃ C, ansC (T.extract 0 k) = C := ⟨_, rfl⟩
  obtain ⟨U, hU⟩ : ∃ U, ansU (T.extract 0 k) = U := ⟨_, rfl⟩
  have EC := Lib.hid hC
  have EU := Lib.hid hU
  clear hC hU
  go_wp2_with fail
  refine (impl_AnswerFrom_any (T.extract 0 k) _ (A0.out.below B3.out) (T0.out.below B3.out)).mono ?_
  rintro e w4 ⟨rfl, b4⟩
  rw [EC.out, EU.out, EK.out]
  have B4 := Lib.hid (B3.out.trans (b4.mono B3.out.size))
  clear b4
  go_wp2_with fail
  go_ret
  exact ⟨rfl, B4.out⟩

set_option maxRecDepth 100000 in
theorem lifted (os : Os) (started : os.Started) (H : Type) (enc : TypeId × Value → H) :
    ReturnsInHanded {} Tryd.checked os 6 .any (fun w args => (Rows.fnAnswerCutSpec.pre enc Tryd.prog Tryd.f6 Rows.fnAnswerCutRow.domain false w args ∧ laidMetH Tryd.prog Rows.fnAnswerCutRow.laid w) ∧ sizedMet enc Tryd.prog Tryd.f6 (OpenSpec.ofChange Rows.fnAnswerCutSpec) false w args) (Rows.fnAnswerCutSpec.post enc Tryd.prog Tryd.f6 false true false false) := by
  refine returnsInHanded_of_change_and (C := Tryd.checked) (X := fun w _ => laidMetH Tryd.prog Rows.fnAnswerCutRow.laid w) (fun _ _ _ hh h => h.of_heap hh) Tryd.own started (by kernel_rfl) Tryd.func6
    (ChangeSpec.witness_shaped (enc := enc) (C := Tryd.checked) (os := os) (X := fun w _ => laidMetH Tryd.prog Rows.fnAnswerCutRow.laid w) false (World.laidAll Tryd.prog os Rows.fnAnswerCutRow.laid) #[.slice none 0 0, .slice none 0 0] 8 (World.laidAll_os _ _ _)
      (World.shaped_of_ZipB (by kernel_rfl) (by kernel_rfl)) (by kernel_rfl) (by kernel_rfl) (by kernel_rfl)
      (by rw [MakeChecks.laidMetH_plain _ _ _ (by kernel_rfl)]; exact laidMet_laidAll _ (by kernel_rfl) (by kernel_rfl))) ?_
  intro W base args ds gs before hval0 hW hcnd _ hL _
  rw [MakeChecks.laidMetH_plain _ _ _ (by kernel_rfl)] at hL
  have hT : Tabs W := Tabs.of_laid _ rfl hL
  have hN : Ans W := Ans.of_laid _ rfl hL
  clear hL
  have hval : ∀ (j : Nat) t v, Tryd.f6.params[j]? = some t → args[j]? = some v → Value.okWide Tryd.prog W .any base t v := hval0
  have hW' := hW
  obtain ⟨p, q, hA0, hV, rfl, hfz, hnd⟩ := hW
  have hA : DataW.TrodAll enc Tryd.prog W 0 (fun _ => true) true Tryd.f6.params.toList args.toList ds p := hA0
  rw [Tryd.params6] at hA hval
  obtain ⟨v0, vs0, d0, ds0, p0, q0, hargs, rfl, rfl, h0, r0⟩ := trodAll_cons hA
  obtain ⟨v1, vs1, d1, ds1, p1, q1, rfl, rfl, rfl, h1, r1⟩ := trodAll_cons r0
  obtain ⟨rfl, rfl, rfl⟩ := trodAll_nil r1
  obtain rfl : args = #[v0, v1] := by cases args; simp_all
  have hV0 := hV
  obtain ⟨_, _, _, _, dg, _, rfl, _⟩ := trodVars_one hV0
  clear hV0
  obtain ⟨a0, len0, cap0, rfl⟩ := okWide_slice Tryd.underlying27 (hval 0 27 v0 rfl rfl)
  have k0 := h0
  have lt0 : ∀ x ∈ p0, x.block < W.heap.size := by obtain ⟨m, hm⟩ := k0; exact DataW.trod_lt m _ _ _ hm
  obtain ⟨z0, w0⟩ : ∃ zs, IsRow .u8 W a0 len0 cap0 zs := by
    obtain ⟨fuel, hf⟩ := h0
    rcases open_ints Tryd.underlying27 Tryd.underlying5 (by kernel_rfl) hf with ⟨hcs, _⟩ | ⟨x, l, c, zs, hcs, _, hl, hm, hz, _, hcell, hwz⟩
    · simp [Value.cells] at hcs
      obtain ⟨rfl, rfl, rfl⟩ := hcs
      exact ⟨[], .inl ⟨rfl, rfl, rfl, rfl⟩⟩
    · simp [Value.cells] at hcs
      obtain ⟨rfl, rfl, rfl⟩ := hcs
      exact ⟨zs, .inr ⟨_, rfl, hl, hm, by simpa using hz, hcell, hwz⟩⟩
  obtain ⟨a1, len1, cap1, rfl⟩ := okWide_slice Tryd.underlying27 (hval 1 27 v1 rfl rfl)
  have k1 := h1
  have lt1 : ∀ x ∈ p1, x.block < W.heap.size := by obtain ⟨m, hm⟩ := k1; exact DataW.trod_lt m _ _ _ hm
  obtain ⟨z1, w1⟩ : ∃ zs, IsRow .u8 W a1 len1 cap1 zs := by
    obtain ⟨fuel, hf⟩ := h1
    rcases open_ints Tryd.underlying27 Tryd.underlying5 (by kernel_rfl) hf with ⟨hcs, _⟩ | ⟨x, l, c, zs, hcs, _, hl, hm, hz, _, hcell, hwz⟩
    · simp [Value.cells] at hcs
      obtain ⟨rfl, rfl, rfl⟩ := hcs
      exact ⟨[], .inl ⟨rfl, rfl, rfl, rfl⟩⟩
    · simp [Value.cells] at hcs
      obtain ⟨rfl, rfl, rfl⟩ := hcs
      exact ⟨zs, .inr ⟨_, rfl, hl, hm, by simpa using hz, hcell, hwz⟩⟩
  clear hA0 hval0
  refine (walk (.slice a0 len0 cap0) _ (.slice a1 len1 cap1) _ W ((Came.of_row w0).1) ((Came.of_row w1).1) hT hN).mono fun e W' ⟨he, bel⟩ => ?_
  subst he
  exact ⟨_, rfl, _, _, _, [], _, _, hW', trodAll_mk1 (shut_bool Tryd.underlying4 _), (trodAll_cons_mk (Below.trod Tryd.laidOut (by kernel_rfl) (of_decide_eq_true (by kernel_rfl)) k0 bel lt0) (trodAll_cons_mk (Below.trod Tryd.laidOut (by kernel_rfl) (of_decide_eq_true (by kernel_rfl)) k1 bel lt1) trodAll_mk0)), (Below.trodVars Tryd.laidOut bel (by kernel_rfl) hV), bel.frame _, fun h => by cases h⟩

theorem closed : joinedFacts Tryd.prog 6 Tryd.f6 Rows.fnAnswerCutSpec Rows.fnAnswerCutRow = true := by
  unfold joinedFacts
  repeat' (with_reducible refine band ?_ ?_)
  all_goals (with_reducible (first | exact Tryd.laidOut | exact kMaps | exact kStops | exact kKnobs | exact kHeard | exact kEnter | refine eqPlain ?_ | refine eqLift ?_ | refine eqMake ?_ | skip))
  all_goals (as_aux_lemma => kernel_rfl)

/-- The row -/
theorem row_holds : Rows.FnAnswerCutSaid :=
  OpenClaim.holds_of_wide 6 Tryd.f6 rfl rfl rfl rfl rfl rfl rfl ⟨rfl, rfl, rfl, rfl, rfl⟩ rfl rfl rfl rfl rfl (by as_aux_lemma => kernel_rfl) Tryd.func6 closed
    (of_decide_eq_true (by as_aux_lemma => kernel_rfl)) (by unfold Func.isWrapper; first | (rw [if_pos (by decide +kernel)]; kernel_rfl) | (rw [if_neg (by decide +kernel)]; exact ⟨rfl, rfl⟩))
    (fun os started H enc _ => lifted os started H enc)

set_option maxRecDepth 100000 in
/-- THE STATEMENT -/
theorem proved : Rows.FnAnswerCutCardSaid :=
  Claim7.holds_tied_plain_at .later [] [.data, .data, .data, .widerDeep] true (true, "b20908bc011872177533614467890bccf72ff68b5b5d33e65ac1023722efc054") false row_holds (fun _ h => by cases h) (by as_aux_lemma => kernel_rfl) (fun _ h => by cases h) fnAnswerCut_row_tie rfl ⟨rfl, rfl⟩ (by as_aux_lemma => kernel_rfl) rfl
    (fun f fn hf hfn => by
      obtain rfl : f = 6 := Option.some.inj ((show Tryd.prog.funcNamed "loop.example/proxyframes/laws.FnAnswerCut" = some 6 by kernel_rfl).symm.trans hf) |>.symm
      obtain rfl : fn = Tryd.f6 := (Option.some.inj (Tryd.func6.symm.trans hfn)).symm
      exact ⟨by kernel_rfl, fun j t ht => by
        rw [Tryd.params6] at ht
        have hm : t ∈ [27, 27] := by simpa using Array.mem_of_getElem? ht
        have hall : ([27, 27].all fun u => !Tryd.prog.wantsStandIn u) = true := by kernel_rfl
        exact (show Tryd.prog.wantsStandIn t = false by simpa using List.all_eq_true.1 hall t hm)⟩)
    (by as_aux_lemma => kernel_rfl)
end Go.Proofs.YtifljfnngbapdaaDoor.fnAnswerCut

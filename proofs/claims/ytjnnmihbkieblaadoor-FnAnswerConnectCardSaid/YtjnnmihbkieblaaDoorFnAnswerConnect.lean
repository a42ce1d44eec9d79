/-
  An answer asks for nothing: true for every code. Conditions: none.
-/
import Derived.Test.YtjnnmihbkieblaaDoorKitC
import Derived.Test.YtjnnmihbkieblaaDoorAnsLaid
import Derived.ChangeMaps5
import Derived.Test.YtjnnmihbkieblaaDoorAnsDraw
import Derived.Test.YtjnnmihbkieblaaDoorConLaid
namespace Go.Proofs.YtjnnmihbkieblaaDoor.fnAnswerConnect
open Go.ChangeShapes Go.WideShapes Go.ChangeAt Go.RowKit Go.ChangeMaps

theorem x1_ok : adOk 3 [] ⟨#[120]⟩ 1 = true := by decide +kernel
theorem x1_text : adT 3 [] ⟨#[120]⟩ 1 = ⟨#[120, 58, 49]⟩ := by
  have h : decB 1 = ⟨#[49]⟩ := by
    rw [decB_small (by omega)]
    rfl
  show (⟨#[120]⟩ : ByteArray) ++ colB ++ decB 1 = _
  rw [h]
  rfl
theorem x1_ad : IsAd ⟨#[120, 58, 49]⟩ 3 [] ⟨#[120]⟩ 1 := ⟨x1_ok, x1_text⟩
/-- The one address with this text. -/
def XOne (w : World) (e : Ending) (w' : World) : Prop := ∃ q, e = .returned (.tuple #[.agg #[.int .i64 3, q, .string ⟨#[120]⟩, .int .i64 1], .bool true]) ∧ Own w' w.heap.size q [] ∧ Below w.heap.size w w'
theorem x1_from (w : World) (ht : Tabs w) (he : Errs w) : Calls Tryd.prog 8 #[.string ⟨#[120, 58, 49]⟩] w fun e w' => XOne w e w' :=
  (impl_AddressFrom_any ⟨#[120, 58, 49]⟩ w (by decide) ht he).mono fun e w' hg => by
    rcases hg with ⟨k, q, qs, nm, p, rfl, h1, h2, h3⟩ | ⟨_, h1, _⟩
    · obtain ⟨rfl, rfl, rfl, rfl⟩ := ad_inj x1_ad h1
      exact ⟨q, rfl, h2, h3⟩
    · exact absurd x1_ad (h1 _ _ _ _)
/-- What asks for a tunnel is no answer, and no answer asks for a tunnel. -/
theorem con_noAns (t : ByteArray) : ansO (conT t) = false := by
  have h : ∀ b : ByteArray, b.data.toList.head? = some 72 → beg (conT t) b = false := by
    intro b hb
    cases e : beg (conT t) b
    · rfl
    · exfalso
      rw [beg_iff] at e
      obtain ⟨r, hr⟩ := e
      have h1 : (conT t).data.toList.head? = some 67 := by simp [conT, conB, ByteArray.data_append]
      rw [← hr] at h1
      cases hc : b.data.toList with
      | nil => rw [hc] at hb; simp at hb
      | cons x l =>
        rw [hc] at hb h1
        simp at hb h1
        rw [hb] at h1
        exact absurd h1 (by decide)
  unfold ansO
  rw [h ans200 rfl, h ans403 rfl, h ans407 rfl, h ans502 rfl]
  rfl
theorem ans_noCon {n : Int} {T : ByteArray} (h : ansT n = T) : NoCon T := by
  apply noCon_beg
  subst h
  rcases ans_cases n with rfl | rfl | rfl | rfl | h
  · decide +kernel
  · decide +kernel
  · decide +kernel
  · decide +kernel
  · rw [ansT_none h]
    decide +kernel

set_option maxRecDepth 100000 in
set_option maxHeartbeats 4000000 in
theorem walk (v : Value) (bs : List Int) (w : World) (hv : Came .u8 w w.heap.size v bs) (ht : Tabs w) (hA : Ans w) (he : Errs w) : Calls Tryd.prog 3 #[v] w fun e w' => e = .returned (.bool true) ∧ Below w.heap.size w w' := by
  have hv0 := Lib.hid hv
  have T0 := Lib.hid ht
  have A0 := Lib.hid hA
  have E0 := Lib.hid he
  clear ht hA he
  obtain ⟨A, c, rfl, hc, hm, _, _⟩ := hv
  by_cases hl : 1048576 < bs.length
  · have hl' : (1048576 : Int) < (bs.length : Int) := by omega
    go_enter Tryd.func3, Tryd.ntmps3
    go_wp2_with fail
    go_ret
    exact ⟨rfl, Below.refl _ _⟩
  have hl' : (bs.length : Int) ≤ 1048576 := by omega
  clear hl
  go_enter Tryd.func3, Tryd.ntmps3
  go_wp2_with fail
  refine (DrawAnswerText_any _ bs w hv0.out).mono ?_
  rintro e w1 ⟨n, rfl, b1⟩
  have B1 := Lib.hid b1
  clear b1
  obtain ⟨T, hT⟩ : ∃ T, ansT n = T := ⟨_, rfl⟩
  have E := Lib.hid hT
  clear hT
  go_wp2_with fail
  refine (impl_AnswerText_any n _ (A0.out.below B1.out) (T0.out.below B1.out)).mono ?_
  rintro e w2 ⟨rfl, b2⟩
  rw [E.out]
  have B2 := Lib.hid (B1.out.trans (b2.mono B1.out.size))
  clear b2
  go_wp2_with fail
  refine (spec_AnswerText_any n _).mono ?_
  rintro e w3 ⟨rfl, b3⟩
  rw [E.out]
  have B3 := Lib.hid (B2.out.trans (b3.mono B2.out.size))
  clear b3
  rcases Bool.eq_false_or_eq_true T.toList.isEmpty with hne | hne
  · go_wp2_with fail
    go_ret
    exact ⟨by simp, B3.out⟩
  have NC := Lib.hid (ans_noCon E.out)
  have hTs : T.size < 4294967281 := by have := ansT_size n; rw [E.out] at this; omega
  obtain ⟨C, hC⟩ : ∃ C, conT (adT 3 [] ⟨#[120]⟩ 1) = C := ⟨_, rfl⟩
  have EX : Hid (conX 3 [] ⟨#[120]⟩ 1 = C) := Lib.hid (by rw [← hC]; exact conX_ok x1_ok)
  have EO : Hid (ansO C = false) := Lib.hid (by rw [← hC]; exact con_noAns _)
  obtain ⟨c0, hc0⟩ : ∃ c0, ansC C = c0 := ⟨_, rfl⟩
  obtain ⟨u0, hu0⟩ : ∃ u0, ansU C = u0 := ⟨_, rfl⟩
  have EC := Lib.hid hc0
  have EU := Lib.hid hu0
  clear hC hc0 hu0
  go_wp2_with fail
  refine (impl_Con_no T _ NC.out hTs (T0.out.below B3.out) (E0.out.below B3.out)).mono ?_
  rintro e w4 ⟨rfl, b4⟩
  have B4 : Hid (Below w.heap.size w (w4.alloc (.cells #[.int .i64 0, .slice none 0 0, .string .empty, .int .i64 0] 27))) := Lib.hid ((B3.out.trans (b4.mono B3.out.size)).alloc (B3.out.trans (b4.mono B3.out.size)).size _)
  clear b4
  go_wp2_with fail
  refine (x1_from _ (T0.out.below B4.out) (E0.out.below B4.out)).mono ?_
  rintro e w6 ⟨q6, rfl, o6, b6⟩
  obtain ⟨A6, c6, rfl, _, _, _⟩ := o6.form
  simp only [List.length_nil] at o6 ⊢
  obtain ⟨V6, hV6⟩ : ∃ V6, w6.alloc (.cells #[.int .i64 3, .slice A6 0 c6, .string ⟨#[120]⟩, .int .i64 1] 27) = V6 := ⟨_, rfl⟩
  have X6 : Hid (Blk V6 w6.heap.size 27 #[.int .i64 3, .slice A6 0 c6, .string ⟨#[120]⟩, .int .i64 1]) := Lib.hid (by rw [← hV6]; exact Blk.new _ _ _)
  have O6 : Hid (Own V6 _ (.slice A6 0 c6) []) := Lib.hid (by rw [← hV6]; exact o6.alloc _)
  have B6 : Hid (Below w.heap.size w V6) := Lib.hid (by rw [← hV6]; exact (B4.out.trans (b6.mono B4.out.size)).alloc (B4.out.trans (b6.mono B4.out.size)).size _)
  have x0 : V6.cell? ⟨w6.heap.size, 0, none⟩ = some (.int .i64 3) := X6.out.cell 0
  have x1 : V6.cell? ⟨w6.heap.size, 1, none⟩ = some (.slice A6 0 c6) := X6.out.cell 1
  have x2 : V6.cell? ⟨w6.heap.size, 2, none⟩ = some (.string ⟨#[120]⟩) := X6.out.cell 2
  have x3 : V6.cell? ⟨w6.heap.size, 3, none⟩ = some (.int .i64 1) := X6.out.cell 3
  clear o6 b6
  go_wp2_with fail
  clear hV6 x0 x1 x2 x3
  refine (impl_ConnectText_any 3 _ ⟨#[120]⟩ 1 [] _ O6.out.ints.zero (by decide) (T0.out.below B6.out)).mono ?_
  rintro e w7 ⟨rfl, b7⟩
  rw [EX.out]
  have B7 := Lib.hid (B6.out.trans (b7.mono B6.out.size))
  clear b7
  go_wp2_with fail
  refine (impl_AnswerFrom_any C _ (A0.out.below B7.out) (T0.out.below B7.out)).mono ?_
  rintro e w8 ⟨rfl, b8⟩
  rw [EC.out, EU.out, EO.out]
  have B8 := Lib.hid (B7.out.trans (b8.mono B7.out.size))
  clear b8
  go_wp2_with fail
  go_ret
  exact ⟨by simp, B8.out⟩

set_option maxRecDepth 100000 in
theorem lifted (os : Os) (started : os.Started) (H : Type) (enc : TypeId × Value → H) :
    ReturnsInHanded {} Tryd.checked os 3 .any (fun w args => (Rows.fnAnswerConnectSpec.pre enc Tryd.prog Tryd.f3 Rows.fnAnswerConnectRow.domain false w args ∧ laidMetH Tryd.prog Rows.fnAnswerConnectRow.laid w) ∧ sizedMet enc Tryd.prog Tryd.f3 (OpenSpec.ofChange Rows.fnAnswerConnectSpec) false w args) (Rows.fnAnswerConnectSpec.post enc Tryd.prog Tryd.f3 false true false false) := by
  refine returnsInHanded_of_change_and (C := Tryd.checked) (X := fun w _ => laidMetH Tryd.prog Rows.fnAnswerConnectRow.laid w) (fun _ _ _ hh h => h.of_heap hh) Tryd.own started (by kernel_rfl) Tryd.func3
    (ChangeSpec.witness_shaped (enc := enc) (C := Tryd.checked) (os := os) (X := fun w _ => laidMetH Tryd.prog Rows.fnAnswerConnectRow.laid w) false (World.laidAll Tryd.prog os Rows.fnAnswerConnectRow.laid) #[.slice none 0 0] 8 (World.laidAll_os _ _ _)
      (World.shaped_of_ZipB (by kernel_rfl) (by kernel_rfl)) (by kernel_rfl) (by kernel_rfl) (by kernel_rfl)
      (by rw [MakeChecks.laidMetH_plain _ _ _ (by kernel_rfl)]; exact laidMet_laidAll _ (by kernel_rfl) (by kernel_rfl))) ?_
  intro W base args ds gs before hval0 hW hcnd _ hL _
  rw [MakeChecks.laidMetH_plain _ _ _ (by kernel_rfl)] at hL
  have hT : Tabs W := Tabs.of_laid _ rfl hL
  have hN : Ans W := Ans.of_laid6 _ rfl hL
  have hR : Errs W := Errs.of_laid _ rfl hL
  clear hL
  have hval : ∀ (j : Nat) t v, Tryd.f3.params[j]? = some t → args[j]? = some v → Value.okWide Tryd.prog W .any base t v := hval0
  have hW' := hW
  obtain ⟨p, q, hA0, hV, rfl, hfz, hnd⟩ := hW
  have hA : DataW.TrodAll enc Tryd.prog W 0 (fun _ => true) true Tryd.f3.params.toList args.toList ds p := hA0
  rw [Tryd.params3] at hA hval
  obtain ⟨v0, vs0, d0, ds0, p0, q0, hargs, rfl, rfl, h0, r0⟩ := trodAll_cons hA
  obtain ⟨rfl, rfl, rfl⟩ := trodAll_nil r0
  obtain rfl : args = #[v0] := by cases args; simp_all
  have hV0 := hV
  obtain ⟨_, _, _, _, dg, _, rfl, _⟩ := trodVars_one hV0
  clear hV0
  obtain ⟨a0, len0, cap0, rfl⟩ := okWide_slice Tryd.underlying22 (hval 0 22 v0 rfl rfl)
  have k0 := h0
  have lt0 : ∀ x ∈ p0, x.block < W.heap.size := by obtain ⟨m, hm⟩ := k0; exact DataW.trod_lt m _ _ _ hm
  obtain ⟨z0, w0⟩ : ∃ zs, IsRow .u8 W a0 len0 cap0 zs := by
    obtain ⟨fuel, hf⟩ := h0
    rcases open_ints Tryd.underlying22 Tryd.underlying5 (by kernel_rfl) hf with ⟨hcs, _⟩ | ⟨x, l, c, zs, hcs, _, hl, hm, hz, _, hcell, hwz⟩
    · simp [Value.cells] at hcs
      obtain ⟨rfl, rfl, rfl⟩ := hcs
      exact ⟨[], .inl ⟨rfl, rfl, rfl, rfl⟩⟩
    · simp [Value.cells] at hcs
      obtain ⟨rfl, rfl, rfl⟩ := hcs
      exact ⟨zs, .inr ⟨_, rfl, hl, hm, by simpa using hz, hcell, hwz⟩⟩
  clear hA0 hval0
  refine (walk (.slice a0 len0 cap0) _ W ((Came.of_row w0).1) hT hN hR).mono fun e W' ⟨he, bel⟩ => ?_
  subst he
  exact ⟨_, rfl, _, _, _, [], _, _, hW', trodAll_mk1 (shut_bool Tryd.underlying4 _), (trodAll_cons_mk (Below.trod Tryd.laidOut (by kernel_rfl) (of_decide_eq_true (by kernel_rfl)) k0 bel lt0) trodAll_mk0), (Below.trodVars Tryd.laidOut bel (by kernel_rfl) hV), bel.frame _, fun h => by cases h⟩

theorem closed : joinedFacts Tryd.prog 3 Tryd.f3 Rows.fnAnswerConnectSpec Rows.fnAnswerConnectRow = true := by
  unfold joinedFacts
  repeat' (with_reducible refine band ?_ ?_)
  all_goals (with_reducible (first | exact Tryd.laidOut | exact kMaps | exact kStops | exact kKnobs | exact kHeard | exact kEnter | refine eqPlain ?_ | refine eqLift ?_ | refine eqMake ?_ | skip))
  all_goals (as_aux_lemma => kernel_rfl)

/-- The row -/
theorem row_holds : Rows.FnAnswerConnectSaid :=
  OpenClaim.holds_of_wide 3 Tryd.f3 rfl rfl rfl rfl rfl rfl rfl ⟨rfl, rfl, rfl, rfl, rfl⟩ rfl rfl rfl rfl rfl (by as_aux_lemma => kernel_rfl) Tryd.func3 closed
    (of_decide_eq_true (by as_aux_lemma => kernel_rfl)) (by unfold Func.isWrapper; first | (rw [if_pos (by decide +kernel)]; kernel_rfl) | (rw [if_neg (by decide +kernel)]; exact ⟨rfl, rfl⟩))
    (fun os started H enc _ => lifted os started H enc)

set_option maxRecDepth 100000 in
/-- THE STATEMENT -/
theorem proved : Rows.FnAnswerConnectCardSaid :=
  Claim7.holds_tied_plain_at .later [] [.data, .data, .data, .data, .sentinel, .sentinel, .widerDeep, .pinned] true (true, "9564cdf2a06613b0b609d6d234fc6e83c81023c442f8b5cd68285dbc27d80dfb") true row_holds (fun _ h => by cases h) (by as_aux_lemma => kernel_rfl) (fun _ h => by cases h) fnAnswerConnect_row_tie rfl ⟨rfl, rfl⟩ (by as_aux_lemma => kernel_rfl) rfl
    (fun f fn hf hfn => by
      obtain rfl : f = 3 := Option.some.inj ((show Tryd.prog.funcNamed "loop.example/proxyframes/laws.FnAnswerConnect" = some 3 by kernel_rfl).symm.trans hf) |>.symm
      obtain rfl : fn = Tryd.f3 := (Option.some.inj (Tryd.func3.symm.trans hfn)).symm
      exact ⟨by kernel_rfl, fun j t ht => by
        rw [Tryd.params3] at ht
        have hm : t ∈ [22] := by simpa using Array.mem_of_getElem? ht
        have hall : ([22].all fun u => !Tryd.prog.wantsStandIn u) = true := by kernel_rfl
        exact (show Tryd.prog.wantsStandIn t = false by simpa using List.all_eq_true.1 hall t hm)⟩)
    (by as_aux_lemma => kernel_rfl)
end Go.Proofs.YtjnnmihbkieblaaDoor.fnAnswerConnect

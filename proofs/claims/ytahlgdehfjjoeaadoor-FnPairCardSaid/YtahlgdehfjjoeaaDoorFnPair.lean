/-
  A pair has four bytes at both ends: true for every code. Conditions: none.
-/
import Derived.Test.YtahlgdehfjjoeaaDoorKitC
import Derived.Test.YtahlgdehfjjoeaaDoorPair
import Derived.Test.YtahlgdehfjjoeaaDoorDrawPair2
namespace Go.Proofs.YtahlgdehfjjoeaaDoor.fnPair
open Go.ChangeShapes Go.WideShapes Go.ChangeAt Go.RowKit

set_option maxRecDepth 100000 in
set_option maxHeartbeats 4000000 in
theorem walk (v : Value) (bs : List Int) (w : World) (hv : Came .u8 w w.heap.size v bs) : Calls Tryd.prog 3 #[v] w fun e w' => e = .returned (.bool true) ∧ Below w.heap.size w w' := by
  have hv0 := Lib.hid hv
  obtain ⟨A, c, rfl, hc, hm, _, _⟩ := hv
  by_cases hl : 1048576 < bs.length
  · have hl' : (1048576 : Int) < (bs.length : Int) := by omega
    go_enter Tryd.func3, Tryd.ntmps3
    go_wp2_with fail
    go_ret
    exact ⟨rfl, Below.refl _ _⟩
  have hl' : (bs.length : Int) ≤ 1048576 := by omega
  clear hl
  go_enter Tryd.func3, Tryd.ntmps3
  go_wp2_with fail
  refine (DrawPairValid_any _ bs w hv0.out).mono ?_
  rintro e w1 ⟨k1, q1, qs1, m1, p1, k2, q2, qs2, m2, p2, rfl, o1, s1, o2, s2, b1⟩
  obtain ⟨A1, c1, rfl, _, _, _⟩ := o1.form
  obtain ⟨A2, c2, rfl, _, _, _⟩ := o2.form
  have n1 : m1.size < 4294967281 := by omega
  have n2 : m2.size < 4294967281 := by omega
  obtain ⟨V, hV⟩ : ∃ V, w1.alloc (.cells #[.int .i64 k1, .slice A1 qs1.length c1, .string m1, .int .i64 p1, .int .i64 k2, .slice A2 qs2.length c2, .string m2, .int .i64 p2] 27) = V := ⟨_, rfl⟩
  have K : Hid (Blk V w1.heap.size 27 #[.int .i64 k1, .slice A1 qs1.length c1, .string m1, .int .i64 p1, .int .i64 k2, .slice A2 qs2.length c2, .string m2, .int .i64 p2]) := Lib.hid (by rw [← hV]; exact Blk.new _ _ _)
  have B : Hid (Below w.heap.size w V) := Lib.hid (by rw [← hV]; exact b1.alloc b1.size _)
  have I1 : Hid (Ints V 0 (.slice A1 qs1.length c1) qs1) := Lib.hid (by rw [← hV]; exact (o1.alloc _).ints.zero)
  have I2 : Hid (Ints V 0 (.slice A2 qs2.length c2) qs2) := Lib.hid (by rw [← hV]; exact (o2.alloc _).ints.zero)
  have a0 : V.cell? ⟨w1.heap.size, 0, none⟩ = some (.int .i64 k1) := K.out.cell 0
  have a1 : V.cell? ⟨w1.heap.size, 1, none⟩ = some (.slice A1 qs1.length c1) := K.out.cell 1
  have a2 : V.cell? ⟨w1.heap.size, 2, none⟩ = some (.string m1) := K.out.cell 2
  have a3 : V.cell? ⟨w1.heap.size, 3, none⟩ = some (.int .i64 p1) := K.out.cell 3
  have a4 : V.cell? ⟨w1.heap.size, 4, none⟩ = some (.int .i64 k2) := K.out.cell 4
  have a5 : V.cell? ⟨w1.heap.size, 5, none⟩ = some (.slice A2 qs2.length c2) := K.out.cell 5
  have a6 : V.cell? ⟨w1.heap.size, 6, none⟩ = some (.string m2) := K.out.cell 6
  have a7 : V.cell? ⟨w1.heap.size, 7, none⟩ = some (.int .i64 p2) := K.out.cell 7
  clear o1 o2 b1
  go_wp2_with fail
  clear hV a0 a1 a2 a3 a4 a5 a6 a7
  refine (impl_PairValid_any k1 _ m1 p1 qs1 k2 _ m2 p2 qs2 _ I1.out I2.out n1 n2).mono ?_
  rintro e w2 ⟨rfl, b2⟩
  have K2 := Lib.hid (K.out.kept b2)
  have B2 := Lib.hid (B.out.trans (b2.mono B.out.size))
  have I12 := Lib.hid (I1.out.below b2)
  have I22 := Lib.hid (I2.out.below b2)
  have a0 : w2.cell? ⟨w1.heap.size, 0, none⟩ = some (.int .i64 k1) := K2.out.cell 0
  have a1 : w2.cell? ⟨w1.heap.size, 1, none⟩ = some (.slice A1 qs1.length c1) := K2.out.cell 1
  have a2 : w2.cell? ⟨w1.heap.size, 2, none⟩ = some (.string m1) := K2.out.cell 2
  have a3 : w2.cell? ⟨w1.heap.size, 3, none⟩ = some (.int .i64 p1) := K2.out.cell 3
  have a4 : w2.cell? ⟨w1.heap.size, 4, none⟩ = some (.int .i64 k2) := K2.out.cell 4
  have a5 : w2.cell? ⟨w1.heap.size, 5, none⟩ = some (.slice A2 qs2.length c2) := K2.out.cell 5
  have a6 : w2.cell? ⟨w1.heap.size, 6, none⟩ = some (.string m2) := K2.out.cell 6
  have a7 : w2.cell? ⟨w1.heap.size, 7, none⟩ = some (.int .i64 p2) := K2.out.cell 7
  clear b2 K B I1 I2
  obtain ⟨O, hO⟩ : ∃ O, prOk k1 qs1 m1 p1 k2 qs2 m2 p2 = O := ⟨_, rfl⟩
  have EO := Lib.hid hO
  rw [hO]
  clear hO
  go_wp2_with fail
  clear a0 a1 a2 a3 a4 a5 a6 a7
  refine (spec_PairValid_any k1 _ m1 p1 qs1 k2 _ m2 p2 qs2 _ I12.out I22.out n1 n2).mono ?_
  rintro e w3 ⟨rfl, b3⟩
  rw [EO.out]
  have K3 := Lib.hid (K2.out.kept b3)
  have B3 := Lib.hid (B2.out.trans (b3.mono B2.out.size))
  have I13 := Lib.hid (I12.out.below b3)
  have I23 := Lib.hid (I22.out.below b3)
  have a0 : w3.cell? ⟨w1.heap.size, 0, none⟩ = some (.int .i64 k1) := K3.out.cell 0
  have a1 : w3.cell? ⟨w1.heap.size, 1, none⟩ = some (.slice A1 qs1.length c1) := K3.out.cell 1
  have a2 : w3.cell? ⟨w1.heap.size, 2, none⟩ = some (.string m1) := K3.out.cell 2
  have a3 : w3.cell? ⟨w1.heap.size, 3, none⟩ = some (.int .i64 p1) := K3.out.cell 3
  clear b3 K2 B2 I12 I22
  go_wp2_with fail
  clear a0 a1 a2 a3
  refine (impl_AddressValid_any k1 _ m1 p1 qs1 _ I13.out n1).mono ?_
  rintro e w4 ⟨rfl, b4⟩
  have K4 := Lib.hid (K3.out.kept b4)
  have B4 := Lib.hid (B3.out.trans (b4.mono B3.out.size))
  have I24 := Lib.hid (I23.out.below b4)
  have a4 : w4.cell? ⟨w1.heap.size, 4, none⟩ = some (.int .i64 k2) := K4.out.cell 4
  have a5 : w4.cell? ⟨w1.heap.size, 5, none⟩ = some (.slice A2 qs2.length c2) := K4.out.cell 5
  have a6 : w4.cell? ⟨w1.heap.size, 6, none⟩ = some (.string m2) := K4.out.cell 6
  have a7 : w4.cell? ⟨w1.heap.size, 7, none⟩ = some (.int .i64 p2) := K4.out.cell 7
  clear b4 K3 B3 I13 I23
  cases ho1 : adOk k1 qs1 m1 p1
  · obtain rfl : O = false := by rw [← EO.out, prOk, ho1]; rfl
    clear ho1
    go_wp2_with fail
    go_ret
    exact ⟨rfl, B4.out⟩
  have E1 : Hid (O = (adOk k2 qs2 m2 p2 && decide (k1 = 1) && decide (k2 = 1))) := Lib.hid (by rw [← EO.out, prOk, ho1]; rfl)
  clear ho1 EO
  go_wp2_with fail
  refine (impl_AddressValid_any k2 _ m2 p2 qs2 _ I24.out n2).mono ?_
  rintro e w5 ⟨rfl, b5⟩
  have K5 := Lib.hid (K4.out.kept b5)
  have B5 := Lib.hid (B4.out.trans (b5.mono B4.out.size))
  clear b5 K4 B4 I24 a4 a5 a6 a7
  have a0 : w5.cell? ⟨w1.heap.size, 0, none⟩ = some (.int .i64 k1) := K5.out.cell 0
  have a4 : w5.cell? ⟨w1.heap.size, 4, none⟩ = some (.int .i64 k2) := K5.out.cell 4
  cases ho2 : adOk k2 qs2 m2 p2
  · obtain rfl : O = false := by rw [E1.out, ho2]; rfl
    clear ho2 E1
    go_wp2_with fail
    go_ret
    exact ⟨rfl, B5.out⟩
  have E2 : Hid (O = (decide (k1 = 1) && decide (k2 = 1))) := Lib.hid (by rw [E1.out, ho2]; rfl)
  clear ho2 E1
  by_cases hk1 : k1 = 1
  case neg =>
    obtain rfl : O = false := by rw [E2.out, decide_eq_false hk1]; rfl
    have hk1' : (k1 == 1) = false := by simpa using hk1
    clear hk1 E2
    go_wp2_with fail
    go_ret
    exact ⟨rfl, B5.out⟩
  have hk1' : (k1 == 1) = true := by simpa using hk1
  by_cases hk2 : k2 = 1
  · obtain rfl : O = true := by rw [E2.out, decide_eq_true hk1, decide_eq_true hk2]; rfl
    have hk2' : (k2 == 1) = true := by simpa using hk2
    clear hk1 hk2 E2
    go_wp2_with fail
    go_ret
    exact ⟨rfl, B5.out⟩
  · obtain rfl : O = false := by rw [E2.out, decide_eq_true hk1, decide_eq_false hk2]; rfl
    have hk2' : (k2 == 1) = false := by simpa using hk2
    clear hk1 hk2 E2
    go_wp2_with fail
    go_ret
    exact ⟨rfl, B5.out⟩
set_option maxRecDepth 100000 in
theorem lifted (os : Os) (started : os.Started) (H : Type) (enc : TypeId × Value → H) :
    ReturnsInHanded {} Tryd.checked os 3 .any (fun w args => (Rows.fnPairSpec.pre enc Tryd.prog Tryd.f3 Rows.fnPairRow.domain false w args ∧ laidMetH Tryd.prog Rows.fnPairRow.laid w) ∧ sizedMet enc Tryd.prog Tryd.f3 (OpenSpec.ofChange Rows.fnPairSpec) false w args) (Rows.fnPairSpec.post enc Tryd.prog Tryd.f3 false true false false) := by
  refine returnsInHanded_of_change_and (C := Tryd.checked) (X := fun w _ => laidMetH Tryd.prog Rows.fnPairRow.laid w) (fun _ _ _ hh h => h.of_heap hh) Tryd.own started (by kernel_rfl) Tryd.func3
    (ChangeSpec.witness_shaped (enc := enc) (C := Tryd.checked) (os := os) (X := fun w _ => laidMetH Tryd.prog Rows.fnPairRow.laid w) false (World.laidAll Tryd.prog os Rows.fnPairRow.laid) #[.slice none 0 0] 8 (World.laidAll_os _ _ _)
      (World.shaped_of_ZipB (by kernel_rfl) (by kernel_rfl)) (by kernel_rfl) (by kernel_rfl) (by kernel_rfl)
      (by rw [MakeChecks.laidMetH_plain _ _ _ (by kernel_rfl)]; exact laidMet_laidAll _ (by kernel_rfl) (by kernel_rfl))) ?_
  intro W base args ds gs before hval0 hW hcnd _ _ _
  have hval : ∀ (j : Nat) t v, Tryd.f3.params[j]? = some t → args[j]? = some v → Value.okWide Tryd.prog W .any base t v := hval0
  have hW' := hW
  obtain ⟨p, q, hA0, hV, rfl, hfz, hnd⟩ := hW
  have hA : DataW.TrodAll enc Tryd.prog W 0 (fun _ => true) true Tryd.f3.params.toList args.toList ds p := hA0
  rw [Tryd.params3] at hA hval
  obtain ⟨v0, vs0, d0, ds0, p0, q0, hargs, rfl, rfl, h0, r0⟩ := trodAll_cons hA
  obtain ⟨rfl, rfl, rfl⟩ := trodAll_nil r0
  obtain rfl : args = #[v0] := by cases args; simp_all
  obtain ⟨rfl, rfl⟩ := trodVars_none hV
  obtain ⟨a0, len0, cap0, rfl⟩ := okWide_slice Tryd.underlying22 (hval 0 22 v0 rfl rfl)
  have k0 := h0
  have lt0 : ∀ x ∈ p0, x.block < W.heap.size := by obtain ⟨m, hm⟩ := k0; exact DataW.trod_lt m _ _ _ hm
  obtain ⟨z0, w0⟩ : ∃ zs, IsRow .u8 W a0 len0 cap0 zs := by
    obtain ⟨fuel, hf⟩ := h0
    rcases open_ints Tryd.underlying22 Tryd.underlying5 (by kernel_rfl) hf with ⟨hcs, _⟩ | ⟨x, l, c, zs, hcs, _, hl, hm, hz, _, hcell, hwz⟩
    · simp [Value.cells] at hcs
      obtain ⟨rfl, rfl, rfl⟩ := hcs
      exact ⟨[], .inl ⟨rfl, rfl, rfl, rfl⟩⟩
    · simp [Value.cells] at hcs
      obtain ⟨rfl, rfl, rfl⟩ := hcs
      exact ⟨zs, .inr ⟨_, rfl, hl, hm, by simpa using hz, hcell, hwz⟩⟩
  clear hA0 hval0
  refine (walk (.slice a0 len0 cap0) _ W ((Came.of_row w0).1)).mono fun e W' ⟨he, bel⟩ => ?_
  subst he
  exact ⟨_, rfl, _, _, _, [], _, [], hW', trodAll_mk1 (shut_bool Tryd.underlying4 _), (trodAll_cons_mk (Below.trod Tryd.laidOut (by kernel_rfl) (of_decide_eq_true (by kernel_rfl)) k0 bel lt0) trodAll_mk0), rfl, bel.frame _, fun h => by cases h⟩

theorem closed : joinedFacts Tryd.prog 3 Tryd.f3 Rows.fnPairSpec Rows.fnPairRow = true := by
  unfold joinedFacts
  repeat' (with_reducible refine band ?_ ?_)
  all_goals (with_reducible (first | exact Tryd.laidOut | exact kMaps | exact kStops | exact kKnobs | exact kHeard | exact kEnter | refine eqPlain ?_ | refine eqLift ?_ | refine eqMake ?_ | skip))
  all_goals (as_aux_lemma => kernel_rfl)

/-- The row -/
theorem row_holds : Rows.FnPairSaid :=
  OpenClaim.holds_of_wide 3 Tryd.f3 rfl rfl rfl rfl rfl rfl rfl ⟨rfl, rfl, rfl, rfl, rfl⟩ rfl rfl rfl rfl rfl (by as_aux_lemma => kernel_rfl) Tryd.func3 closed
    (of_decide_eq_true (by as_aux_lemma => kernel_rfl)) (by unfold Func.isWrapper; first | (rw [if_pos (by decide +kernel)]; kernel_rfl) | (rw [if_neg (by decide +kernel)]; exact ⟨rfl, rfl⟩))
    (fun os started H enc _ => lifted os started H enc)

set_option maxRecDepth 100000 in
/-- THE STATEMENT -/
theorem proved : Rows.FnPairCardSaid :=
  Claim7.holds_tied_plain_at .later [] [.data, .pinned] true (true, "ddde8ea9baa7a1e5dd8529c3c4e771e6d4cb3dba0431e3a41231ca5bdcf81568") false row_holds (fun _ h => by cases h) (by as_aux_lemma => kernel_rfl) (fun _ h => by cases h) fnPair_row_tie rfl ⟨rfl, rfl⟩ (by as_aux_lemma => kernel_rfl) rfl
    (fun f fn hf hfn => by
      obtain rfl : f = 3 := Option.some.inj ((show Tryd.prog.funcNamed "loop.example/proxyframes/laws.FnPair" = some 3 by kernel_rfl).symm.trans hf) |>.symm
      obtain rfl : fn = Tryd.f3 := (Option.some.inj (Tryd.func3.symm.trans hfn)).symm
      exact ⟨by kernel_rfl, fun j t ht => by
        rw [Tryd.params3] at ht
        have hm : t ∈ [22] := by simpa using Array.mem_of_getElem? ht
        have hall : ([22].all fun u => !Tryd.prog.wantsStandIn u) = true := by kernel_rfl
        exact (show Tryd.prog.wantsStandIn t = false by simpa using List.all_eq_true.1 hall t hm)⟩)
    (by as_aux_lemma => kernel_rfl)
end Go.Proofs.YtahlgdehfjjoeaaDoor.fnPair

/-
  A reply looks like a request: true for every code. Conditions: none.
-/
import Derived.Test.YtahlgdehfjjoeaaDoorKitC
import Derived.Test.YtahlgdehfjjoeaaDoorDrawRp
import Derived.Test.YtahlgdehfjjoeaaDoorCodeBytes2
import Derived.Test.YtahlgdehfjjoeaaDoorRqBack
import Derived.Test.YtahlgdehfjjoeaaDoorSameAd
namespace Go.Proofs.YtahlgdehfjjoeaaDoor.fnReplyRequest
open Go.ChangeShapes Go.WideShapes Go.ChangeAt Go.RowKit

set_option maxRecDepth 100000 in
set_option maxHeartbeats 4000000 in
theorem walk (v : Value) (bs : List Int) (w : World) (hv : Came .u8 w w.heap.size v bs) : Calls Tryd.prog 11 #[v] w fun e w' => e = .returned (.bool true) ∧ Below w.heap.size w w' := by
  have hv0 := Lib.hid hv
  obtain ⟨A, c, rfl, hc, hm, _, _⟩ := hv
  by_cases hl : 1048576 < bs.length
  · have hl' : (1048576 : Int) < (bs.length : Int) := by omega
    go_enter Tryd.func11, Tryd.ntmps11
    go_wp2_with fail
    go_ret
    exact ⟨rfl, Below.refl _ _⟩
  have hl' : (bs.length : Int) ≤ 1048576 := by omega
  clear hl
  go_enter Tryd.func11, Tryd.ntmps11
  go_wp2_with fail
  refine (DrawReplyBytes_any _ bs w hv0.out).mono ?_
  rintro e w1 ⟨code, k, q, qs, nm, p, rfl, o1, l1, hs, b1⟩
  obtain ⟨A1, c1, rfl, hc1, hm1, _⟩ := o1.form
  have hns : nm.size < 4294967281 := by omega
  obtain ⟨V1, hV1⟩ : ∃ V1, w1.alloc (.cells #[.int .i64 k, .slice A1 qs.length c1, .string nm, .int .i64 p] 25) = V1 := ⟨_, rfl⟩
  have K1 : Hid (Blk V1 w1.heap.size 25 #[.int .i64 k, .slice A1 qs.length c1, .string nm, .int .i64 p]) := Lib.hid (by rw [← hV1]; exact Blk.new _ _ _)
  have I1 : Hid (Ints V1 0 (.slice A1 qs.length c1) qs) := Lib.hid (by rw [← hV1]; exact (o1.alloc _).ints.zero)
  have B1 : Hid (Below w.heap.size w V1) := Lib.hid (by rw [← hV1]; exact b1.alloc b1.size _)
  have a0 : V1.cell? ⟨w1.heap.size, 0, none⟩ = some (.int .i64 k) := K1.out.cell 0
  have a1 : V1.cell? ⟨w1.heap.size, 1, none⟩ = some (.slice A1 qs.length c1) := K1.out.cell 1
  have a2 : V1.cell? ⟨w1.heap.size, 2, none⟩ = some (.string nm) := K1.out.cell 2
  have a3 : V1.cell? ⟨w1.heap.size, 3, none⟩ = some (.int .i64 p) := K1.out.cell 3
  clear o1 b1
  go_wp2_with fail
  clear hV1 a0 a1 a2 a3
  refine (impl_ReplyBytes_any code k _ nm p qs _ I1.out hns).mono ?_
  rintro e w2 ⟨v2, rfl, o2, b2⟩
  obtain ⟨A2, c2, rfl, hc2, hm2, hA2⟩ := o2.form
  have O2 := Lib.hid o2
  have I2 := Lib.hid (I1.out.below b2)
  have K2 := Lib.hid (K1.out.kept b2)
  have B2 := Lib.hid (B1.out.trans (b2.mono B1.out.size))
  have a0 : w2.cell? ⟨w1.heap.size, 0, none⟩ = some (.int .i64 k) := K2.out.cell 0
  have a1 : w2.cell? ⟨w1.heap.size, 1, none⟩ = some (.slice A1 qs.length c1) := K2.out.cell 1
  have a2 : w2.cell? ⟨w1.heap.size, 2, none⟩ = some (.string nm) := K2.out.cell 2
  have a3 : w2.cell? ⟨w1.heap.size, 3, none⟩ = some (.int .i64 p) := K2.out.cell 3
  clear o2 b2 K1 I1 B1
  go_wp2_with fail
  refine (spec_ReplyBytes_any code k _ nm p qs _ I2.out hns).mono ?_
  rintro e w3 ⟨v3, rfl, o3, b3⟩
  have O23 := Lib.hid (O2.out.below b3)
  have O3 := Lib.hid o3.ints.zero
  have I3 := Lib.hid (I2.out.below b3)
  have K3 := Lib.hid (K2.out.kept b3)
  have B3 := Lib.hid (B2.out.trans (b3.mono B2.out.size))
  clear o3 b3 K2 I2 B2 O2 a0 a1 a2 a3
  cases ha : rpOk code k qs nm p
  · obtain ⟨L, hL⟩ : ∃ L, rpL code k qs nm p = L := ⟨_, rfl⟩
    rw [hL] at O23 O3 ⊢
    clear ha hL hA2
    go_wp2_with fail
    refine (sameBytes_any _ _ L L _ O23.out.ints.zero O3.out).mono ?_
    rintro e w4 ⟨rfl, n4, rfl⟩
    go_wp2_with fail
    refine (sameBytes_any _ _ L L _ (O23.out.ints.zero.drewN _) (O3.out.drewN _)).mono ?_
    rintro e w5 ⟨rfl, n5, rfl⟩
    go_wp2_with fail
    go_ret
    exact ⟨rfl, below_drewN B3.out _⟩
  have hlen := rp_len ha
  have HL : Hid (∀ (u : Value) (W : World), Ints W 0 u ((rpL code k qs nm p)) → ((1 ≤ code ∧ code ≤ 3) → RfGave u W code k qs nm p (((rpL code k qs nm p)).length : Int) true) ∧ (¬ (1 ≤ code ∧ code ≤ 3) → RfGave u W 0 0 [] ByteArray.empty 0 0 false)) := Lib.hid (fun u W hu => ⟨fun h => rp_rf ha h u W hu, fun h => rp_rf_not ha h u W hu⟩)
  obtain ⟨L, hL⟩ : ∃ L, rpL code k qs nm p = L := ⟨_, rfl⟩
  rw [hL] at O23 O3 hlen hm2 hA2 HL ⊢
  obtain ⟨hlen1, hlen2⟩ := hlen
  clear ha hL
  go_wp2_with fail
  refine (sameBytes_any _ _ L L _ O23.out.ints.zero O3.out).mono ?_
  rintro e w4 ⟨rfl, n4, rfl⟩
  rw [decide_eq_true rfl]
  obtain ⟨V, hV⟩ : ∃ V, w3.drewN n4 = V := ⟨_, rfl⟩
  have OV : Hid (Own V _ (.slice A2 L.length c2) L) := Lib.hid (by rw [← hV]; exact O23.out.drewN n4)
  have IV : Hid (Ints V 0 (.slice A1 qs.length c1) qs) := Lib.hid (by rw [← hV]; exact I3.out.drewN n4)
  have KV : Hid (Blk V w1.heap.size 25 #[.int .i64 k, .slice A1 qs.length c1, .string nm, .int .i64 p]) := Lib.hid (by rw [← hV]; exact K3.out.drewN n4)
  have BV : Hid (Below w.heap.size w V) := Lib.hid (by rw [← hV]; exact below_drewN B3.out n4)
  rw [hV]
  clear hV O23 O3 I3 K3 B3
  clear hA2
  have E := Lib.hid (HL.out _ _ OV.out.ints.zero)
  clear HL
  by_cases hr : 1 ≤ code ∧ code ≤ 3
  case neg =>
    have hr2 : (decide (1 ≤ code) && decide (code ≤ 3)) = false := by
      by_cases h1 : 1 ≤ code
      · rw [decide_eq_false (fun h => hr ⟨h1, h⟩), Bool.and_false]
      · rw [decide_eq_false h1]; rfl
    have HE := Lib.hid (E.out.2 hr)
    have hr3 : code < 1 ∨ 3 < code := by omega
    clear hr E
    rcases hr3 with h1 | h3
    · have h1' : ¬ 1 ≤ code := by omega
      go_wp2_with fail
      refine HE.out.mono ?_
      rintro e w5 ⟨q5, rfl, o5, b5⟩
      obtain ⟨A5, c5, rfl, _, _, _⟩ := o5.form
      have B5 := Lib.hid (BV.out.trans (b5.mono BV.out.size))
      clear b5 o5
      go_wp2_with fail
      go_ret
      exact ⟨rfl, B5.out.alloc B5.out.size _⟩
    · have h1' : 1 ≤ code := by omega
      have h3' : ¬ code ≤ 3 := by omega
      have H3 := Lib.hid h3'
      go_wp2_with fail
      refine HE.out.mono ?_
      rintro e w5 ⟨q5, rfl, o5, b5⟩
      obtain ⟨A5, c5, rfl, _, _, _⟩ := o5.form
      have B5 := Lib.hid (BV.out.trans (b5.mono BV.out.size))
      clear b5 o5
      go_wp2_with fail
      go_ret
      refine ⟨?_, B5.out.alloc B5.out.size _⟩
      show Ending.returned (.bool (!decide (code ≤ 3))) = _
      rw [decide_eq_false (by have := H3.out; omega)]
      rfl
  have HE := Lib.hid (E.out.1 hr)
  obtain ⟨hr1, hr3⟩ := hr
  clear E
  go_wp2_with fail
  refine HE.out.mono ?_
  rintro e w5 ⟨q5, rfl, o5, b5⟩
  obtain ⟨A5, c5, rfl, _, _, _⟩ := o5.form
  obtain ⟨V5, hV5⟩ : ∃ V5, w5.alloc (.cells #[.int .i64 code, .int .i64 k, .slice A5 qs.length c5, .string nm, .int .i64 p] 43) = V5 := ⟨_, rfl⟩
  have K5 : Hid (Blk V5 w1.heap.size 25 #[.int .i64 k, .slice A1 qs.length c1, .string nm, .int .i64 p]) := Lib.hid (by rw [← hV5]; exact (KV.out.kept b5).alloc _)
  have X5 : Hid (Blk V5 w5.heap.size 43 #[.int .i64 code, .int .i64 k, .slice A5 qs.length c5, .string nm, .int .i64 p]) := Lib.hid (by rw [← hV5]; exact Blk.new _ _ _)
  have I5 : Hid (Ints V5 0 (.slice A1 qs.length c1) qs) := Lib.hid (by rw [← hV5]; exact (IV.out.below b5).alloc _)
  have O5 : Hid (Ints V5 0 (.slice A5 qs.length c5) qs) := Lib.hid (by rw [← hV5]; exact (o5.alloc _).ints.zero)
  have B5 : Hid (Below w.heap.size w V5) := Lib.hid (by
    rw [← hV5]
    have h := BV.out.trans (b5.mono BV.out.size)
    exact h.alloc h.size _)
  have a0 : V5.cell? ⟨w1.heap.size, 0, none⟩ = some (.int .i64 k) := K5.out.cell 0
  have a1 : V5.cell? ⟨w1.heap.size, 1, none⟩ = some (.slice A1 qs.length c1) := K5.out.cell 1
  have a2 : V5.cell? ⟨w1.heap.size, 2, none⟩ = some (.string nm) := K5.out.cell 2
  have a3 : V5.cell? ⟨w1.heap.size, 3, none⟩ = some (.int .i64 p) := K5.out.cell 3
  have x0 : V5.cell? ⟨w5.heap.size, 0, none⟩ = some (.int .i64 code) := X5.out.cell 0
  have x1 : V5.cell? ⟨w5.heap.size, 1, none⟩ = some (.int .i64 k) := X5.out.cell 1
  have x2 : V5.cell? ⟨w5.heap.size, 2, none⟩ = some (.slice A5 qs.length c5) := X5.out.cell 2
  have x3 : V5.cell? ⟨w5.heap.size, 3, none⟩ = some (.string nm) := X5.out.cell 3
  have x4 : V5.cell? ⟨w5.heap.size, 4, none⟩ = some (.int .i64 p) := X5.out.cell 4
  clear b5 o5 KV IV OV
  go_wp2_with fail
  refine (sameAddress_same k _ _ nm p qs _ O5.out I5.out).mono ?_
  rintro e w6 ⟨rfl, b6⟩
  have B6 := Lib.hid (B5.out.trans (b6.mono B5.out.size))
  clear b6
  go_wp2_with fail
  go_ret
  exact ⟨rfl, B6.out⟩
set_option maxRecDepth 100000 in
theorem lifted (os : Os) (started : os.Started) (H : Type) (enc : TypeId × Value → H) :
    ReturnsInHanded {} Tryd.checked os 11 .any (fun w args => (Rows.fnReplyRequestSpec.pre enc Tryd.prog Tryd.f11 Rows.fnReplyRequestRow.domain false w args ∧ laidMetH Tryd.prog Rows.fnReplyRequestRow.laid w) ∧ sizedMet enc Tryd.prog Tryd.f11 (OpenSpec.ofChange Rows.fnReplyRequestSpec) false w args) (Rows.fnReplyRequestSpec.post enc Tryd.prog Tryd.f11 false true false false) := by
  refine returnsInHanded_of_change_and (C := Tryd.checked) (X := fun w _ => laidMetH Tryd.prog Rows.fnReplyRequestRow.laid w) (fun _ _ _ hh h => h.of_heap hh) Tryd.own started (by kernel_rfl) Tryd.func11
    (ChangeSpec.witness_shaped (enc := enc) (C := Tryd.checked) (os := os) (X := fun w _ => laidMetH Tryd.prog Rows.fnReplyRequestRow.laid w) false (World.laidAll Tryd.prog os Rows.fnReplyRequestRow.laid) #[.slice none 0 0] 8 (World.laidAll_os _ _ _)
      (World.shaped_of_ZipB (by kernel_rfl) (by kernel_rfl)) (by kernel_rfl) (by kernel_rfl) (by kernel_rfl)
      (by rw [MakeChecks.laidMetH_plain _ _ _ (by kernel_rfl)]; exact laidMet_laidAll _ (by kernel_rfl) (by kernel_rfl))) ?_
  intro W base args ds gs before hval0 hW hcnd _ _ _
  have hval : ∀ (j : Nat) t v, Tryd.f11.params[j]? = some t → args[j]? = some v → Value.okWide Tryd.prog W .any base t v := hval0
  have hW' := hW
  obtain ⟨p, q, hA0, hV, rfl, hfz, hnd⟩ := hW
  have hA : DataW.TrodAll enc Tryd.prog W 0 (fun _ => true) true Tryd.f11.params.toList args.toList ds p := hA0
  rw [Tryd.params11] at hA hval
  obtain ⟨v0, vs0, d0, ds0, p0, q0, hargs, rfl, rfl, h0, r0⟩ := trodAll_cons hA
  obtain ⟨rfl, rfl, rfl⟩ := trodAll_nil r0
  obtain rfl : args = #[v0] := by cases args; simp_all
  obtain ⟨rfl, rfl⟩ := trodVars_none hV
  obtain ⟨a0, len0, cap0, rfl⟩ := okWide_slice Tryd.underlying22 (hval 0 22 v0 rfl rfl)
  have k0 := h0
  have lt0 : ∀ x ∈ p0, x.block < W.heap.size := by obtain ⟨m, hm⟩ := k0; exact DataW.trod_lt m _ _ _ hm
  obtain ⟨z0, w0⟩ : ∃ zs, IsRow .u8 W a0 len0 cap0 zs := by
    obtain ⟨fuel, hf⟩ := h0
    rcases open_ints Tryd.underlying22 Tryd.underlying5 (by kernel_rfl) hf with ⟨hcs, _⟩ | ⟨x, l, c, zs, hcs, _, hl, hm, hz, _, hcell, hwz⟩
    · simp [Value.cells] at hcs
      obtain ⟨rfl, rfl, rfl⟩ := hcs
      exact ⟨[], .inl ⟨rfl, rfl, rfl, rfl⟩⟩
    · simp [Value.cells] at hcs
      obtain ⟨rfl, rfl, rfl⟩ := hcs
      exact ⟨zs, .inr ⟨_, rfl, hl, hm, by simpa using hz, hcell, hwz⟩⟩
  clear hA0 hval0
  refine (walk (.slice a0 len0 cap0) _ W ((Came.of_row w0).1)).mono fun e W' ⟨he, bel⟩ => ?_
  subst he
  exact ⟨_, rfl, _, _, _, [], _, [], hW', trodAll_mk1 (shut_bool Tryd.underlying4 _), (trodAll_cons_mk (Below.trod Tryd.laidOut (by kernel_rfl) (of_decide_eq_true (by kernel_rfl)) k0 bel lt0) trodAll_mk0), rfl, bel.frame _, fun h => by cases h⟩

theorem closed : joinedFacts Tryd.prog 11 Tryd.f11 Rows.fnReplyRequestSpec Rows.fnReplyRequestRow = true := by
  unfold joinedFacts
  repeat' (with_reducible refine band ?_ ?_)
  all_goals (with_reducible (first | exact Tryd.laidOut | exact kMaps | exact kStops | exact kKnobs | exact kHeard | exact kEnter | refine eqPlain ?_ | refine eqLift ?_ | refine eqMake ?_ | skip))
  all_goals (as_aux_lemma => kernel_rfl)

/-- The row -/
theorem row_holds : Rows.FnReplyRequestSaid :=
  OpenClaim.holds_of_wide 11 Tryd.f11 rfl rfl rfl rfl rfl rfl rfl ⟨rfl, rfl, rfl, rfl, rfl⟩ rfl rfl rfl rfl rfl (by as_aux_lemma => kernel_rfl) Tryd.func11 closed
    (of_decide_eq_true (by as_aux_lemma => kernel_rfl)) (by unfold Func.isWrapper; first | (rw [if_pos (by decide +kernel)]; kernel_rfl) | (rw [if_neg (by decide +kernel)]; exact ⟨rfl, rfl⟩))
    (fun os started H enc _ => lifted os started H enc)

set_option maxRecDepth 100000 in
/-- THE STATEMENT -/
theorem proved : Rows.FnReplyRequestCardSaid :=
  Claim7.holds_tied_plain_at .later [] [.data, .pinned] true (true, "ddde8ea9baa7a1e5dd8529c3c4e771e6d4cb3dba0431e3a41231ca5bdcf81568") false row_holds (fun _ h => by cases h) (by as_aux_lemma => kernel_rfl) (fun _ h => by cases h) fnReplyRequest_row_tie rfl ⟨rfl, rfl⟩ (by as_aux_lemma => kernel_rfl) rfl
    (fun f fn hf hfn => by
      obtain rfl : f = 11 := Option.some.inj ((show Tryd.prog.funcNamed "loop.example/proxyframes/laws.FnReplyRequest" = some 11 by kernel_rfl).symm.trans hf) |>.symm
      obtain rfl : fn = Tryd.f11 := (Option.some.inj (Tryd.func11.symm.trans hfn)).symm
      exact ⟨by kernel_rfl, fun j t ht => by
        rw [Tryd.params11] at ht
        have hm : t ∈ [22] := by simpa using Array.mem_of_getElem? ht
        have hall : ([22].all fun u => !Tryd.prog.wantsStandIn u) = true := by kernel_rfl
        exact (show Tryd.prog.wantsStandIn t = false by simpa using List.all_eq_true.1 hall t hm)⟩)
    (by as_aux_lemma => kernel_rfl)
end Go.Proofs.YtahlgdehfjjoeaaDoor.fnReplyRequest

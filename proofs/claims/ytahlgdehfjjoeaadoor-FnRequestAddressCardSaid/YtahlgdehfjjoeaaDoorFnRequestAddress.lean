/-
  A request's bytes begin with its code and end with its address's bytes: true for every code. Conditions: none.
-/
import Derived.Test.YtahlgdehfjjoeaaDoorKitC
import Derived.Test.YtahlgdehfjjoeaaDoorDrawRq
import Derived.Test.YtahlgdehfjjoeaaDoorReqBytes
import Derived.Test.YtahlgdehfjjoeaaDoorBegin
import Derived.Test.YtahlgdehfjjoeaaDoorRqBack
namespace Go.Proofs.YtahlgdehfjjoeaaDoor.fnRequestAddress
open Go.ChangeShapes Go.WideShapes Go.ChangeAt Go.RowKit

set_option maxRecDepth 100000 in
set_option maxHeartbeats 4000000 in
theorem walk (v : Value) (bs : List Int) (w : World) (hv : Came .u8 w w.heap.size v bs) : Calls Tryd.prog 5 #[v] w fun e w' => e = .returned (.bool true) ∧ Below w.heap.size w w' := by
  have hv0 := Lib.hid hv
  obtain ⟨A, c, rfl, hc, hm, _, _⟩ := hv
  by_cases hl : 1048576 < bs.length
  · have hl' : (1048576 : Int) < (bs.length : Int) := by omega
    go_enter Tryd.func5, Tryd.ntmps5
    go_wp2_with fail
    go_ret
    exact ⟨rfl, Below.refl _ _⟩
  have hl' : (bs.length : Int) ≤ 1048576 := by omega
  clear hl
  go_enter Tryd.func5, Tryd.ntmps5
  go_wp2_with fail
  refine (DrawRequestBytes_any _ bs w hv0.out).mono ?_
  rintro e w1 ⟨code, k, q, qs, nm, p, rfl, o1, l1, hs, b1⟩
  obtain ⟨A1, c1, rfl, hc1, hm1, _⟩ := o1.form
  have hns : nm.size < 4294967281 := by omega
  obtain ⟨V1, hV1⟩ : ∃ V1, w1.alloc (.cells #[.int .i64 code, .int .i64 k, .slice A1 qs.length c1, .string nm, .int .i64 p] 43) = V1 := ⟨_, rfl⟩
  have K1 : Hid (Blk V1 w1.heap.size 43 #[.int .i64 code, .int .i64 k, .slice A1 qs.length c1, .string nm, .int .i64 p]) := Lib.hid (by rw [← hV1]; exact Blk.new _ _ _)
  have I1 : Hid (Ints V1 0 (.slice A1 qs.length c1) qs) := Lib.hid (by rw [← hV1]; exact (o1.alloc _).ints.zero)
  have B1 : Hid (Below w.heap.size w V1) := Lib.hid (by rw [← hV1]; exact b1.alloc b1.size _)
  have a0 : V1.cell? ⟨w1.heap.size, 0, none⟩ = some (.int .i64 code) := K1.out.cell 0
  have a1 : V1.cell? ⟨w1.heap.size, 1, none⟩ = some (.int .i64 k) := K1.out.cell 1
  have a2 : V1.cell? ⟨w1.heap.size, 2, none⟩ = some (.slice A1 qs.length c1) := K1.out.cell 2
  have a3 : V1.cell? ⟨w1.heap.size, 3, none⟩ = some (.string nm) := K1.out.cell 3
  have a4 : V1.cell? ⟨w1.heap.size, 4, none⟩ = some (.int .i64 p) := K1.out.cell 4
  clear o1 b1
  go_wp2_with fail
  clear hV1 a0 a1 a2 a3 a4
  refine (impl_RequestBytes_any code k _ nm p qs _ I1.out hns).mono ?_
  rintro e w2 ⟨v2, rfl, o2, b2⟩
  obtain ⟨A2, c2, rfl, hc2, hm2, hA2⟩ := o2.form
  have O2 := Lib.hid o2
  have I2 := Lib.hid (I1.out.below b2)
  have K2 := Lib.hid (K1.out.kept b2)
  have B2 := Lib.hid (B1.out.trans (b2.mono B1.out.size))
  have a0 : w2.cell? ⟨w1.heap.size, 0, none⟩ = some (.int .i64 code) := K2.out.cell 0
  have a1 : w2.cell? ⟨w1.heap.size, 1, none⟩ = some (.int .i64 k) := K2.out.cell 1
  have a2 : w2.cell? ⟨w1.heap.size, 2, none⟩ = some (.slice A1 qs.length c1) := K2.out.cell 2
  have a3 : w2.cell? ⟨w1.heap.size, 3, none⟩ = some (.string nm) := K2.out.cell 3
  have a4 : w2.cell? ⟨w1.heap.size, 4, none⟩ = some (.int .i64 p) := K2.out.cell 4
  clear o2 b2 K1 I1 B1
  go_wp2_with fail
  refine (spec_RequestBytes_any code k _ nm p qs _ I2.out hns).mono ?_
  rintro e w3 ⟨v3, rfl, o3, b3⟩
  have O23 := Lib.hid (O2.out.below b3)
  have O3 := Lib.hid o3.ints.zero
  have I3 := Lib.hid (I2.out.below b3)
  have K3 := Lib.hid (K2.out.kept b3)
  have B3 := Lib.hid (B2.out.trans (b3.mono B2.out.size))
  clear o3 b3 K2 I2 B2 O2 a0 a1 a2 a3 a4
  cases ha : rqOk code k qs nm p
  · obtain ⟨L, hL⟩ : ∃ L, rqL code k qs nm p = L := ⟨_, rfl⟩
    rw [hL] at O23 O3 ⊢
    clear ha hL hA2
    go_wp2_with fail
    refine (sameBytes_any _ _ L L _ O23.out.ints.zero O3.out).mono ?_
    rintro e w4 ⟨rfl, n4, rfl⟩
    go_wp2_with fail
    refine (sameBytes_any _ _ L L _ (O23.out.ints.zero.drewN _) (O3.out.drewN _)).mono ?_
    rintro e w5 ⟨rfl, n5, rfl⟩
    go_wp2_with fail
    go_ret
    exact ⟨rfl, below_drewN B3.out _⟩
  have hlen := rq_len ha
  have HOK : Hid (adOk k qs nm p = true) := Lib.hid ((rqOk_parts ha).2.2)
  have HBG : Hid (beginL ((rqL code k qs nm p)) [5, code, 0] = true) := Lib.hid (by rw [rqL_ok ha]; simp [beginL])
  have HDR : Hid (((rqL code k qs nm p)).drop 3 = adL k qs nm p) := Lib.hid (by rw [rqL_ok ha, adL_ok (rqOk_parts ha).2.2]; rfl)
  obtain ⟨L, hL⟩ : ∃ L, rqL code k qs nm p = L := ⟨_, rfl⟩
  rw [hL] at O23 O3 hlen hm2 hA2 HBG HDR ⊢
  obtain ⟨hlen1, hlen2⟩ := hlen
  clear ha hL
  go_wp2_with fail
  refine (sameBytes_any _ _ L L _ O23.out.ints.zero O3.out).mono ?_
  rintro e w4 ⟨rfl, n4, rfl⟩
  rw [decide_eq_true rfl]
  obtain ⟨V, hV⟩ : ∃ V, w3.drewN n4 = V := ⟨_, rfl⟩
  have OV : Hid (Own V _ (.slice A2 L.length c2) L) := Lib.hid (by rw [← hV]; exact O23.out.drewN n4)
  have IV : Hid (Ints V 0 (.slice A1 qs.length c1) qs) := Lib.hid (by rw [← hV]; exact I3.out.drewN n4)
  have KV : Hid (Blk V w1.heap.size 43 #[.int .i64 code, .int .i64 k, .slice A1 qs.length c1, .string nm, .int .i64 p]) := Lib.hid (by rw [← hV]; exact K3.out.drewN n4)
  have BV : Hid (Below w.heap.size w V) := Lib.hid (by rw [← hV]; exact below_drewN B3.out n4)
  rw [hV]
  clear hV O23 O3 I3 K3 B3
  obtain ⟨b, rfl, hb1, hb2⟩ := hA2.resolve_left (fun h => by rw [h] at hlen1; simp at hlen1)
  obtain ⟨A3, c3, he, _, _, hA3⟩ := OV.out.ints.open_
  injection he with e1 e2 e3
  subst e1
  obtain ⟨b', o', e4, _, _, hs3⟩ := hA3.resolve_left (fun h => by rw [h] at hlen1; simp at hlen1)
  injection e4 with e4
  injection e4 with e5 e6
  subst e5 e6

  obtain ⟨V3, hV3, j3⟩ := slice_end hs3 rfl (l := 3) (by omega) hm2 hc2
  have hV3' : ∀ W : World, (Instr.slice 23 (.slice (some ⟨b, 0, none⟩) L.length c2) (some (.int .i64 3)) none none).run Tryd.prog W = .ok V3 W := hV3
  rw [HDR.out] at j3
  have J3 := Lib.hid j3
  obtain ⟨D, hD⟩ : ∃ D, adL k qs nm p = D := ⟨_, rfl⟩
  rw [hD] at J3
  have ED := Lib.hid hD
  have a0 : V.cell? ⟨w1.heap.size, 0, none⟩ = some (.int .i64 code) := KV.out.cell 0
  have a1 : V.cell? ⟨w1.heap.size, 1, none⟩ = some (.int .i64 k) := KV.out.cell 1
  have a2 : V.cell? ⟨w1.heap.size, 2, none⟩ = some (.slice A1 qs.length c1) := KV.out.cell 2
  have a3 : V.cell? ⟨w1.heap.size, 3, none⟩ = some (.string nm) := KV.out.cell 3
  have a4 : V.cell? ⟨w1.heap.size, 4, none⟩ = some (.int .i64 p) := KV.out.cell 4
  clear hV3 hs3 hA3 hA2 e2 e3 j3 HDR hD
  go_wp2_with fail
  refine (AddressBytes_any k _ nm p qs _ IV.out hns).mono ?_
  rintro e w5 ⟨v5, rfl, o5, b5⟩
  rw [HOK.out]
  rw [ED.out] at o5
  obtain ⟨A5, c5, rfl, hc5, hm5, _⟩ := o5.form
  have O25 := Lib.hid (OV.out.below b5).ints.zero
  have O5 := Lib.hid o5.ints.zero
  have J5 := Lib.hid (J3.out.below b5)
  have K5 := KV.out.kept b5
  have B5 := Lib.hid (BV.out.trans (b5.mono BV.out.size))
  have g0 : w5.cell? ⟨w1.heap.size, 0, none⟩ = some (.int .i64 code) := K5.cell 0
  clear o5 b5 OV IV KV BV J3 K5 a0 a1 a2 a3 a4
  go_wp2_with fail
  refine (isBegin_any _ _ L [5, code, 0] _ (O25.out.alloc _) ?_).mono ?_
  · exact (Own.lit_3 (base := 0) rfl (Nat.zero_le _)).ints
  rintro e w6 ⟨rfl, n6, rfl⟩
  rw [HBG.out]
  obtain ⟨V6, hV6⟩ : ∃ V6, (w5.alloc (.cells #[.int .i64 5, .int .i64 code, .int .i64 0] 3)).drewN n6 = V6 := ⟨_, rfl⟩
  have J6 : Hid (Ints V6 0 V3 D) := Lib.hid (by rw [← hV6]; exact (J5.out.alloc _).drewN n6)
  have O6 : Hid (Ints V6 0 (.slice A5 D.length c5) D) := Lib.hid (by rw [← hV6]; exact (O5.out.alloc _).drewN n6)
  have B6 : Hid (Below w.heap.size w V6) := Lib.hid (by rw [← hV6]; exact below_drewN (B5.out.alloc B5.out.size _) n6)
  have hl3 : (3 : Int) ≤ (L.length : Int) := by omega
  rw [hV6]
  clear hV6 J5 O5 B5 O25 g0
  go_wp2_with fail
  refine (sameBytes_any _ _ D D _ J6.out O6.out).mono ?_
  rintro e w7 ⟨rfl, n7, rfl⟩
  rw [decide_eq_true rfl]
  go_wp2_with fail
  go_ret
  exact ⟨rfl, below_drewN B6.out n7⟩
set_option maxRecDepth 100000 in
theorem lifted (os : Os) (started : os.Started) (H : Type) (enc : TypeId × Value → H) :
    ReturnsInHanded {} Tryd.checked os 5 .any (fun w args => (Rows.fnRequestAddressSpec.pre enc Tryd.prog Tryd.f5 Rows.fnRequestAddressRow.domain false w args ∧ laidMetH Tryd.prog Rows.fnRequestAddressRow.laid w) ∧ sizedMet enc Tryd.prog Tryd.f5 (OpenSpec.ofChange Rows.fnRequestAddressSpec) false w args) (Rows.fnRequestAddressSpec.post enc Tryd.prog Tryd.f5 false true false false) := by
  refine returnsInHanded_of_change_and (C := Tryd.checked) (X := fun w _ => laidMetH Tryd.prog Rows.fnRequestAddressRow.laid w) (fun _ _ _ hh h => h.of_heap hh) Tryd.own started (by kernel_rfl) Tryd.func5
    (ChangeSpec.witness_shaped (enc := enc) (C := Tryd.checked) (os := os) (X := fun w _ => laidMetH Tryd.prog Rows.fnRequestAddressRow.laid w) false (World.laidAll Tryd.prog os Rows.fnRequestAddressRow.laid) #[.slice none 0 0] 8 (World.laidAll_os _ _ _)
      (World.shaped_of_ZipB (by kernel_rfl) (by kernel_rfl)) (by kernel_rfl) (by kernel_rfl) (by kernel_rfl)
      (by rw [MakeChecks.laidMetH_plain _ _ _ (by kernel_rfl)]; exact laidMet_laidAll _ (by kernel_rfl) (by kernel_rfl))) ?_
  intro W base args ds gs before hval0 hW hcnd _ _ _
  have hval : ∀ (j : Nat) t v, Tryd.f5.params[j]? = some t → args[j]? = some v → Value.okWide Tryd.prog W .any base t v := hval0
  have hW' := hW
  obtain ⟨p, q, hA0, hV, rfl, hfz, hnd⟩ := hW
  have hA : DataW.TrodAll enc Tryd.prog W 0 (fun _ => true) true Tryd.f5.params.toList args.toList ds p := hA0
  rw [Tryd.params5] at hA hval
  obtain ⟨v0, vs0, d0, ds0, p0, q0, hargs, rfl, rfl, h0, r0⟩ := trodAll_cons hA
  obtain ⟨rfl, rfl, rfl⟩ := trodAll_nil r0
  obtain rfl : args = #[v0] := by cases args; simp_all
  obtain ⟨rfl, rfl⟩ := trodVars_none hV
  obtain ⟨a0, len0, cap0, rfl⟩ := okWide_slice Tryd.underlying22 (hval 0 22 v0 rfl rfl)
  have k0 := h0
  have lt0 : ∀ x ∈ p0, x.block < W.heap.size := by obtain ⟨m, hm⟩ := k0; exact DataW.trod_lt m _ _ _ hm
  obtain ⟨z0, w0⟩ : ∃ zs, IsRow .u8 W a0 len0 cap0 zs := by
    obtain ⟨fuel, hf⟩ := h0
    rcases open_ints Tryd.underlying22 Tryd.underlying5 (by kernel_rfl) hf with ⟨hcs, _⟩ | ⟨x, l, c, zs, hcs, _, hl, hm, hz, _, hcell, hwz⟩
    · simp [Value.cells] at hcs
      obtain ⟨rfl, rfl, rfl⟩ := hcs
      exact ⟨[], .inl ⟨rfl, rfl, rfl, rfl⟩⟩
    · simp [Value.cells] at hcs
      obtain ⟨rfl, rfl, rfl⟩ := hcs
      exact ⟨zs, .inr ⟨_, rfl, hl, hm, by simpa using hz, hcell, hwz⟩⟩
  clear hA0 hval0
  refine (walk (.slice a0 len0 cap0) _ W ((Came.of_row w0).1)).mono fun e W' ⟨he, bel⟩ => ?_
  subst he
  exact ⟨_, rfl, _, _, _, [], _, [], hW', trodAll_mk1 (shut_bool Tryd.underlying4 _), (trodAll_cons_mk (Below.trod Tryd.laidOut (by kernel_rfl) (of_decide_eq_true (by kernel_rfl)) k0 bel lt0) trodAll_mk0), rfl, bel.frame _, fun h => by cases h⟩

theorem closed : joinedFacts Tryd.prog 5 Tryd.f5 Rows.fnRequestAddressSpec Rows.fnRequestAddressRow = true := by
  unfold joinedFacts
  repeat' (with_reducible refine band ?_ ?_)
  all_goals (with_reducible (first | exact Tryd.laidOut | exact kMaps | exact kStops | exact kKnobs | exact kHeard | exact kEnter | refine eqPlain ?_ | refine eqLift ?_ | refine eqMake ?_ | skip))
  all_goals (as_aux_lemma => kernel_rfl)

/-- The row -/
theorem row_holds : Rows.FnRequestAddressSaid :=
  OpenClaim.holds_of_wide 5 Tryd.f5 rfl rfl rfl rfl rfl rfl rfl ⟨rfl, rfl, rfl, rfl, rfl⟩ rfl rfl rfl rfl rfl (by as_aux_lemma => kernel_rfl) Tryd.func5 closed
    (of_decide_eq_true (by as_aux_lemma => kernel_rfl)) (by unfold Func.isWrapper; first | (rw [if_pos (by decide +kernel)]; kernel_rfl) | (rw [if_neg (by decide +kernel)]; exact ⟨rfl, rfl⟩))
    (fun os started H enc _ => lifted os started H enc)

set_option maxRecDepth 100000 in
/-- THE STATEMENT -/
theorem proved : Rows.FnRequestAddressCardSaid :=
  Claim7.holds_tied_plain_at .later [] [.data, .pinned] true (true, "ddde8ea9baa7a1e5dd8529c3c4e771e6d4cb3dba0431e3a41231ca5bdcf81568") false row_holds (fun _ h => by cases h) (by as_aux_lemma => kernel_rfl) (fun _ h => by cases h) fnRequestAddress_row_tie rfl ⟨rfl, rfl⟩ (by as_aux_lemma => kernel_rfl) rfl
    (fun f fn hf hfn => by
      obtain rfl : f = 5 := Option.some.inj ((show Tryd.prog.funcNamed "loop.example/proxyframes/laws.FnRequestAddress" = some 5 by kernel_rfl).symm.trans hf) |>.symm
      obtain rfl : fn = Tryd.f5 := (Option.some.inj (Tryd.func5.symm.trans hfn)).symm
      exact ⟨by kernel_rfl, fun j t ht => by
        rw [Tryd.params5] at ht
        have hm : t ∈ [22] := by simpa using Array.mem_of_getElem? ht
        have hall : ([22].all fun u => !Tryd.prog.wantsStandIn u) = true := by kernel_rfl
        exact (show Tryd.prog.wantsStandIn t = false by simpa using List.all_eq_true.1 hall t hm)⟩)
    (by as_aux_lemma => kernel_rfl)
end Go.Proofs.YtahlgdehfjjoeaaDoor.fnRequestAddress

/-
  A request has the fifth version: true for every code. Conditions: none.
-/
import Derived.Test.YtahlgdehfjjoeaaDoorKitC
import Derived.Test.YtahlgdehfjjoeaaDoorDrawRq
import Derived.Test.YtahlgdehfjjoeaaDoorRqBack
import Derived.Test.YtahlgdehfjjoeaaDoorSameAd
namespace Go.Proofs.YtahlgdehfjjoeaaDoor.fnRequestVersion
open Go.ChangeShapes Go.WideShapes Go.ChangeAt Go.RowKit

set_option maxRecDepth 100000 in
set_option maxHeartbeats 4000000 in
theorem walk (v : Value) (bs : List Int) (w : World) (hv : Came .u8 w w.heap.size v bs) : Calls Tryd.prog 13 #[v] w fun e w' => e = .returned (.bool true) ∧ Below w.heap.size w w' := by
  have hv0 := Lib.hid hv
  obtain ⟨A, c, rfl, hc, hm, _, _⟩ := hv
  by_cases hl : 1048576 < bs.length
  · have hl' : (1048576 : Int) < (bs.length : Int) := by omega
    go_enter Tryd.func13, Tryd.ntmps13
    go_wp2_with fail
    go_ret
    exact ⟨rfl, Below.refl _ _⟩
  have hl' : (bs.length : Int) ≤ 1048576 := by omega
  clear hl
  go_enter Tryd.func13, Tryd.ntmps13
  go_wp2_with fail
  refine (DrawRequestBytes_any _ bs w hv0.out).mono ?_
  rintro e w1 ⟨code, k, q, qs, nm, p, rfl, o1, l1, hs, b1⟩
  obtain ⟨A1, c1, rfl, hc1, hm1, _⟩ := o1.form
  have hns : nm.size < 4294967281 := by omega
  obtain ⟨V1, hV1⟩ : ∃ V1, w1.alloc (.cells #[.int .i64 code, .int .i64 k, .slice A1 qs.length c1, .string nm, .int .i64 p] 43) = V1 := ⟨_, rfl⟩
  have K1 : Hid (Blk V1 w1.heap.size 43 #[.int .i64 code, .int .i64 k, .slice A1 qs.length c1, .string nm, .int .i64 p]) := Lib.hid (by rw [← hV1]; exact Blk.new _ _ _)
  have I1 : Hid (Ints V1 0 (.slice A1 qs.length c1) qs) := Lib.hid (by rw [← hV1]; exact (o1.alloc _).ints.zero)
  have B1 : Hid (Below w.heap.size w V1) := Lib.hid (by rw [← hV1]; exact b1.alloc b1.size _)
  have a0 : V1.cell? ⟨w1.heap.size, 0, none⟩ = some (.int .i64 code) := K1.out.cell 0
  have a1 : V1.cell? ⟨w1.heap.size, 1, none⟩ = some (.int .i64 k) := K1.out.cell 1
  have a2 : V1.cell? ⟨w1.heap.size, 2, none⟩ = some (.slice A1 qs.length c1) := K1.out.cell 2
  have a3 : V1.cell? ⟨w1.heap.size, 3, none⟩ = some (.string nm) := K1.out.cell 3
  have a4 : V1.cell? ⟨w1.heap.size, 4, none⟩ = some (.int .i64 p) := K1.out.cell 4
  clear o1 b1
  go_wp2_with fail
  clear hV1 a0 a1 a2 a3 a4
  refine (impl_RequestBytes_any code k _ nm p qs _ I1.out hns).mono ?_
  rintro e w2 ⟨v2, rfl, o2, b2⟩
  obtain ⟨A2, c2, rfl, hc2, hm2, hA2⟩ := o2.form
  have O2 := Lib.hid o2
  have I2 := Lib.hid (I1.out.below b2)
  have K2 := Lib.hid (K1.out.kept b2)
  have B2 := Lib.hid (B1.out.trans (b2.mono B1.out.size))
  have a0 : w2.cell? ⟨w1.heap.size, 0, none⟩ = some (.int .i64 code) := K2.out.cell 0
  have a1 : w2.cell? ⟨w1.heap.size, 1, none⟩ = some (.int .i64 k) := K2.out.cell 1
  have a2 : w2.cell? ⟨w1.heap.size, 2, none⟩ = some (.slice A1 qs.length c1) := K2.out.cell 2
  have a3 : w2.cell? ⟨w1.heap.size, 3, none⟩ = some (.string nm) := K2.out.cell 3
  have a4 : w2.cell? ⟨w1.heap.size, 4, none⟩ = some (.int .i64 p) := K2.out.cell 4
  clear o2 b2 K1 I1 B1
  go_wp2_with fail
  refine (spec_RequestBytes_any code k _ nm p qs _ I2.out hns).mono ?_
  rintro e w3 ⟨v3, rfl, o3, b3⟩
  have O23 := Lib.hid (O2.out.below b3)
  have O3 := Lib.hid o3.ints.zero
  have I3 := Lib.hid (I2.out.below b3)
  have K3 := Lib.hid (K2.out.kept b3)
  have B3 := Lib.hid (B2.out.trans (b3.mono B2.out.size))
  clear o3 b3 K2 I2 B2 O2 a0 a1 a2 a3 a4
  cases ha : rqOk code k qs nm p
  · obtain ⟨L, hL⟩ : ∃ L, rqL code k qs nm p = L := ⟨_, rfl⟩
    rw [hL] at O23 O3 ⊢
    clear ha hL hA2
    go_wp2_with fail
    refine (sameBytes_any _ _ L L _ O23.out.ints.zero O3.out).mono ?_
    rintro e w4 ⟨rfl, n4, rfl⟩
    go_wp2_with fail
    refine (sameBytes_any _ _ L L _ (O23.out.ints.zero.drewN _) (O3.out.drewN _)).mono ?_
    rintro e w5 ⟨rfl, n5, rfl⟩
    go_wp2_with fail
    go_ret
    exact ⟨rfl, below_drewN B3.out _⟩
  have hlen := rq_len ha
  obtain ⟨L, hL⟩ : ∃ L, rqL code k qs nm p = L := ⟨_, rfl⟩
  rw [hL] at O23 O3 hlen hm2 hA2 ⊢
  obtain ⟨hlen1, hlen2⟩ := hlen
  clear ha hL
  go_wp2_with fail
  refine (sameBytes_any _ _ L L _ O23.out.ints.zero O3.out).mono ?_
  rintro e w4 ⟨rfl, n4, rfl⟩
  rw [decide_eq_true rfl]
  obtain ⟨V, hV⟩ : ∃ V, w3.drewN n4 = V := ⟨_, rfl⟩
  have OV : Hid (Own V _ (.slice A2 L.length c2) L) := Lib.hid (by rw [← hV]; exact O23.out.drewN n4)
  have IV : Hid (Ints V 0 (.slice A1 qs.length c1) qs) := Lib.hid (by rw [← hV]; exact I3.out.drewN n4)
  have KV : Hid (Blk V w1.heap.size 43 #[.int .i64 code, .int .i64 k, .slice A1 qs.length c1, .string nm, .int .i64 p]) := Lib.hid (by rw [← hV]; exact K3.out.drewN n4)
  have BV : Hid (Below w.heap.size w V) := Lib.hid (by rw [← hV]; exact below_drewN B3.out n4)
  rw [hV]
  clear hV O23 O3 I3 K3 B3
  obtain ⟨b, rfl, hb1, hb2⟩ := hA2.resolve_left (fun h => by rw [h] at hlen1; simp at hlen1)
  obtain ⟨A3, c3, he, _, _, hA3⟩ := OV.out.ints.open_
  injection he with e1 e2 e3
  subst e1
  obtain ⟨b', o', e4, _, _, hs3⟩ := hA3.resolve_left (fun h => by rw [h] at hlen1; simp at hlen1)
  injection e4 with e4
  injection e4 with e5 e6
  subst e5 e6

  obtain ⟨V1, hV1, j1⟩ := slice_end hs3 rfl (l := 1) (by omega) hm2 hc2
  have hV1' : ∀ W : World, (Instr.slice 23 (.slice (some ⟨b, 0, none⟩) L.length c2) (some (.int .i64 1)) none none).run Tryd.prog W = .ok V1 W := hV1
  have J1 := Lib.hid j1
  have h2l : (2 : Int) < (L.length : Int) := by omega
  clear hV1 hs3 hA3 hA2 e2 e3 j1
  go_wp2_with (first
    | (at_builtin; refine wp_ints rfl (.tmp 52) (.tmp 54) rfl rfl rfl (Own.lit_1 (base := V.heap.size) rfl (Nat.le_refl _)) (J1.out.alloc _) (by simp; omega) (by simp) ?_; intro v5 w5 o5 b5 g5 k5)
    | (at_builtin; refine wp_ints rfl (.tmp 56) (.tmp 57) rfl rfl rfl (Own.lit_0 (base := w5.heap.size) rfl (Nat.le_refl _)) ((OV.out.ints.zero.below (((Below.refl V.heap.size V).alloc (Nat.le_refl _) _).trans b5)).alloc _) (by simp; omega) (by simp) ?_; intro v6 w6 o6 b6 g6 k6; rw [List.nil_append] at o6; obtain ⟨A6, c6, rfl, hc6, hm6, hA6⟩ := o6.form; obtain ⟨b6', rfl, hb6, hb6'⟩ := hA6.resolve_left (fun h => by rw [h] at hlen1; simp at hlen1); have e6 := o6.cell (j := 2) (by omega); have f6 := o6.frozen 2))
  have b67 : Below w5.heap.size w5 (w6.setCell ⟨b6', 2, none⟩ (.int .i64 1)) := (((Below.refl _ w5).alloc (Nat.le_refl _) _).trans b6).setCell (p := ⟨b6', 2, none⟩) hb6 _
  have b05 : Below V.heap.size V w5 := ((Below.refl V.heap.size V).alloc (Nat.le_refl _) _).trans b5
  have I7 : Hid (Ints (w6.setCell ⟨b6', 2, none⟩ (.int .i64 1)) 0 v5 (4 :: L.drop 1)) := Lib.hid (o5.ints.zero.below b67)
  have Z7 := Lib.hid (o6.store_ (j := 2) rfl 1).ints.zero
  have B7 := Lib.hid (BV.out.trans ((b05.trans (b67.mono b05.size)).mono BV.out.size))
  have HL7 : Hid (7 ≤ L.length) := Lib.hid hlen1
  clear o5 b5 g5 k5 o6 b6 g6 k6 b67 b05 e6 f6 J1 OV
  refine (rq_version _ _ I7.out).mono ?_
  rintro e w8 ⟨q8, rfl, o8, b8⟩
  obtain ⟨A8, c8, rfl, _, _, _⟩ := o8.form
  have Z8 := Lib.hid (Z7.out.below b8)
  have B8 := Lib.hid (B7.out.trans (b8.mono B7.out.size))
  clear b8 o8 I7 Z7 B7
  go_wp2_with fail
  refine (rq_third HL7.out _ _ (Z8.out.alloc _)).mono ?_
  rintro e w9 ⟨q9, rfl, o9, b9⟩
  obtain ⟨A9, c9, rfl, _, _, _⟩ := o9.form
  have B9 := Lib.hid ((B8.out.alloc B8.out.size _).trans (b9.mono (B8.out.alloc B8.out.size _).size))
  clear b9 o9 Z8
  go_wp2_with fail
  go_ret
  exact ⟨rfl, B9.out.alloc B9.out.size _⟩
set_option maxRecDepth 100000 in
theorem lifted (os : Os) (started : os.Started) (H : Type) (enc : TypeId × Value → H) :
    ReturnsInHanded {} Tryd.checked os 13 .any (fun w args => (Rows.fnRequestVersionSpec.pre enc Tryd.prog Tryd.f13 Rows.fnRequestVersionRow.domain false w args ∧ laidMetH Tryd.prog Rows.fnRequestVersionRow.laid w) ∧ sizedMet enc Tryd.prog Tryd.f13 (OpenSpec.ofChange Rows.fnRequestVersionSpec) false w args) (Rows.fnRequestVersionSpec.post enc Tryd.prog Tryd.f13 false true false false) := by
  refine returnsInHanded_of_change_and (C := Tryd.checked) (X := fun w _ => laidMetH Tryd.prog Rows.fnRequestVersionRow.laid w) (fun _ _ _ hh h => h.of_heap hh) Tryd.own started (by kernel_rfl) Tryd.func13
    (ChangeSpec.witness_shaped (enc := enc) (C := Tryd.checked) (os := os) (X := fun w _ => laidMetH Tryd.prog Rows.fnRequestVersionRow.laid w) false (World.laidAll Tryd.prog os Rows.fnRequestVersionRow.laid) #[.slice none 0 0] 8 (World.laidAll_os _ _ _)
      (World.shaped_of_ZipB (by kernel_rfl) (by kernel_rfl)) (by kernel_rfl) (by kernel_rfl) (by kernel_rfl)
      (by rw [MakeChecks.laidMetH_plain _ _ _ (by kernel_rfl)]; exact laidMet_laidAll _ (by kernel_rfl) (by kernel_rfl))) ?_
  intro W base args ds gs before hval0 hW hcnd _ _ _
  have hval : ∀ (j : Nat) t v, Tryd.f13.params[j]? = some t → args[j]? = some v → Value.okWide Tryd.prog W .any base t v := hval0
  have hW' := hW
  obtain ⟨p, q, hA0, hV, rfl, hfz, hnd⟩ := hW
  have hA : DataW.TrodAll enc Tryd.prog W 0 (fun _ => true) true Tryd.f13.params.toList args.toList ds p := hA0
  rw [Tryd.params13] at hA hval
  obtain ⟨v0, vs0, d0, ds0, p0, q0, hargs, rfl, rfl, h0, r0⟩ := trodAll_cons hA
  obtain ⟨rfl, rfl, rfl⟩ := trodAll_nil r0
  obtain rfl : args = #[v0] := by cases args; simp_all
  obtain ⟨rfl, rfl⟩ := trodVars_none hV
  obtain ⟨a0, len0, cap0, rfl⟩ := okWide_slice Tryd.underlying22 (hval 0 22 v0 rfl rfl)
  have k0 := h0
  have lt0 : ∀ x ∈ p0, x.block < W.heap.size := by obtain ⟨m, hm⟩ := k0; exact DataW.trod_lt m _ _ _ hm
  obtain ⟨z0, w0⟩ : ∃ zs, IsRow .u8 W a0 len0 cap0 zs := by
    obtain ⟨fuel, hf⟩ := h0
    rcases open_ints Tryd.underlying22 Tryd.underlying5 (by kernel_rfl) hf with ⟨hcs, _⟩ | ⟨x, l, c, zs, hcs, _, hl, hm, hz, _, hcell, hwz⟩
    · simp [Value.cells] at hcs
      obtain ⟨rfl, rfl, rfl⟩ := hcs
      exact ⟨[], .inl ⟨rfl, rfl, rfl, rfl⟩⟩
    · simp [Value.cells] at hcs
      obtain ⟨rfl, rfl, rfl⟩ := hcs
      exact ⟨zs, .inr ⟨_, rfl, hl, hm, by simpa using hz, hcell, hwz⟩⟩
  clear hA0 hval0
  refine (walk (.slice a0 len0 cap0) _ W ((Came.of_row w0).1)).mono fun e W' ⟨he, bel⟩ => ?_
  subst he
  exact ⟨_, rfl, _, _, _, [], _, [], hW', trodAll_mk1 (shut_bool Tryd.underlying4 _), (trodAll_cons_mk (Below.trod Tryd.laidOut (by kernel_rfl) (of_decide_eq_true (by kernel_rfl)) k0 bel lt0) trodAll_mk0), rfl, bel.frame _, fun h => by cases h⟩

theorem closed : joinedFacts Tryd.prog 13 Tryd.f13 Rows.fnRequestVersionSpec Rows.fnRequestVersionRow = true := by
  unfold joinedFacts
  repeat' (with_reducible refine band ?_ ?_)
  all_goals (with_reducible (first | exact Tryd.laidOut | exact kMaps | exact kStops | exact kKnobs | exact kHeard | exact kEnter | refine eqPlain ?_ | refine eqLift ?_ | refine eqMake ?_ | skip))
  all_goals (as_aux_lemma => kernel_rfl)

/-- The row -/
theorem row_holds : Rows.FnRequestVersionSaid :=
  OpenClaim.holds_of_wide 13 Tryd.f13 rfl rfl rfl rfl rfl rfl rfl ⟨rfl, rfl, rfl, rfl, rfl⟩ rfl rfl rfl rfl rfl (by as_aux_lemma => kernel_rfl) Tryd.func13 closed
    (of_decide_eq_true (by as_aux_lemma => kernel_rfl)) (by unfold Func.isWrapper; first | (rw [if_pos (by decide +kernel)]; kernel_rfl) | (rw [if_neg (by decide +kernel)]; exact ⟨rfl, rfl⟩))
    (fun os started H enc _ => lifted os started H enc)

set_option maxRecDepth 100000 in
/-- THE STATEMENT -/
theorem proved : Rows.FnRequestVersionCardSaid :=
  Claim7.holds_tied_plain_at .later [] [.data, .pinned] true (true, "ddde8ea9baa7a1e5dd8529c3c4e771e6d4cb3dba0431e3a41231ca5bdcf81568") false row_holds (fun _ h => by cases h) (by as_aux_lemma => kernel_rfl) (fun _ h => by cases h) fnRequestVersion_row_tie rfl ⟨rfl, rfl⟩ (by as_aux_lemma => kernel_rfl) rfl
    (fun f fn hf hfn => by
      obtain rfl : f = 13 := Option.some.inj ((show Tryd.prog.funcNamed "loop.example/proxyframes/laws.FnRequestVersion" = some 13 by kernel_rfl).symm.trans hf) |>.symm
      obtain rfl : fn = Tryd.f13 := (Option.some.inj (Tryd.func13.symm.trans hfn)).symm
      exact ⟨by kernel_rfl, fun j t ht => by
        rw [Tryd.params13] at ht
        have hm : t ∈ [22] := by simpa using Array.mem_of_getElem? ht
        have hall : ([22].all fun u => !Tryd.prog.wantsStandIn u) = true := by kernel_rfl
        exact (show Tryd.prog.wantsStandIn t = false by simpa using List.all_eq_true.1 hall t hm)⟩)
    (by as_aux_lemma => kernel_rfl)
end Go.Proofs.YtahlgdehfjjoeaaDoor.fnRequestVersion

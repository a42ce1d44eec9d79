/-
  Bytes have their request: true for every code. Conditions: none.
-/
import Derived.Test.YtahlgdehfjjoeaaDoorKitC
import Derived.Test.YtahlgdehfjjoeaaDoorDrawRq
import Derived.Test.YtahlgdehfjjoeaaDoorRqBack
import Derived.Test.YtahlgdehfjjoeaaDoorSameAd
namespace Go.Proofs.YtahlgdehfjjoeaaDoor.fnRequest
open Go.ChangeShapes Go.WideShapes Go.ChangeAt Go.RowKit

set_option maxRecDepth 100000 in
set_option maxHeartbeats 4000000 in
theorem walk (v : Value) (bs : List Int) (w : World) (hv : Came .u8 w w.heap.size v bs) : Calls Tryd.prog 14 #[v] w fun e w' => e = .returned (.bool true) ∧ Below w.heap.size w w' := by
  have hv0 := Lib.hid hv
  obtain ⟨A, c, rfl, hc, hm, _, _⟩ := hv
  by_cases hl : 1048576 < bs.length
  · have hl' : (1048576 : Int) < (bs.length : Int) := by omega
    go_enter Tryd.func14, Tryd.ntmps14
    go_wp2_with fail
    go_ret
    exact ⟨rfl, Below.refl _ _⟩
  have hl' : (bs.length : Int) ≤ 1048576 := by omega
  clear hl
  go_enter Tryd.func14, Tryd.ntmps14
  go_wp2_with fail
  refine (DrawRequestBytes_any _ bs w hv0.out).mono ?_
  rintro e w1 ⟨code, k, q, qs, nm, p, rfl, o1, l1, hs, b1⟩
  obtain ⟨A1, c1, rfl, hc1, hm1, _⟩ := o1.form
  have hns : nm.size < 4294967281 := by omega
  obtain ⟨V1, hV1⟩ : ∃ V1, w1.alloc (.cells #[.int .i64 code, .int .i64 k, .slice A1 qs.length c1, .string nm, .int .i64 p] 43) = V1 := ⟨_, rfl⟩
  have K1 : Hid (Blk V1 w1.heap.size 43 #[.int .i64 code, .int .i64 k, .slice A1 qs.length c1, .string nm, .int .i64 p]) := Lib.hid (by rw [← hV1]; exact Blk.new _ _ _)
  have I1 : Hid (Ints V1 0 (.slice A1 qs.length c1) qs) := Lib.hid (by rw [← hV1]; exact (o1.alloc _).ints.zero)
  have B1 : Hid (Below w.heap.size w V1) := Lib.hid (by rw [← hV1]; exact b1.alloc b1.size _)
  have a0 : V1.cell? ⟨w1.heap.size, 0, none⟩ = some (.int .i64 code) := K1.out.cell 0
  have a1 : V1.cell? ⟨w1.heap.size, 1, none⟩ = some (.int .i64 k) := K1.out.cell 1
  have a2 : V1.cell? ⟨w1.heap.size, 2, none⟩ = some (.slice A1 qs.length c1) := K1.out.cell 2
  have a3 : V1.cell? ⟨w1.heap.size, 3, none⟩ = some (.string nm) := K1.out.cell 3
  have a4 : V1.cell? ⟨w1.heap.size, 4, none⟩ = some (.int .i64 p) := K1.out.cell 4
  clear o1 b1
  go_wp2_with fail
  clear hV1 a0 a1 a2 a3 a4
  refine (impl_RequestBytes_any code k _ nm p qs _ I1.out hns).mono ?_
  rintro e w2 ⟨v2, rfl, o2, b2⟩
  obtain ⟨A2, c2, rfl, hc2, hm2, hA2⟩ := o2.form
  have O2 := Lib.hid o2
  have I2 := Lib.hid (I1.out.below b2)
  have K2 := Lib.hid (K1.out.kept b2)
  have B2 := Lib.hid (B1.out.trans (b2.mono B1.out.size))
  have a0 : w2.cell? ⟨w1.heap.size, 0, none⟩ = some (.int .i64 code) := K2.out.cell 0
  have a1 : w2.cell? ⟨w1.heap.size, 1, none⟩ = some (.int .i64 k) := K2.out.cell 1
  have a2 : w2.cell? ⟨w1.heap.size, 2, none⟩ = some (.slice A1 qs.length c1) := K2.out.cell 2
  have a3 : w2.cell? ⟨w1.heap.size, 3, none⟩ = some (.string nm) := K2.out.cell 3
  have a4 : w2.cell? ⟨w1.heap.size, 4, none⟩ = some (.int .i64 p) := K2.out.cell 4
  clear o2 b2 K1 I1 B1
  go_wp2_with fail
  refine (spec_RequestBytes_any code k _ nm p qs _ I2.out hns).mono ?_
  rintro e w3 ⟨v3, rfl, o3, b3⟩
  have O23 := Lib.hid (O2.out.below b3)
  have O3 := Lib.hid o3.ints.zero
  have I3 := Lib.hid (I2.out.below b3)
  have K3 := Lib.hid (K2.out.kept b3)
  have B3 := Lib.hid (B2.out.trans (b3.mono B2.out.size))
  clear o3 b3 K2 I2 B2 O2 a0 a1 a2 a3 a4
  cases ha : rqOk code k qs nm p
  · obtain ⟨L, hL⟩ : ∃ L, rqL code k qs nm p = L := ⟨_, rfl⟩
    rw [hL] at O23 O3 ⊢
    clear ha hL hA2
    go_wp2_with fail
    refine (sameBytes_any _ _ L L _ O23.out.ints.zero O3.out).mono ?_
    rintro e w4 ⟨rfl, n4, rfl⟩
    go_wp2_with fail
    refine (sameBytes_any _ _ L L _ (O23.out.ints.zero.drewN _) (O3.out.drewN _)).mono ?_
    rintro e w5 ⟨rfl, n5, rfl⟩
    go_wp2_with fail
    go_ret
    exact ⟨rfl, below_drewN B3.out _⟩
  have hlen := rq_len ha
  have E : Hid (∀ (u : Value) (W : World), Ints W 0 u ((rqL code k qs nm p)) → RfGave u W code k qs nm p (((rqL code k qs nm p)).length : Int) true) := Lib.hid (fun u W hu => rq_back0 ha u W hu)
  have E9 : Hid (∀ (u : Value) (W : World), Ints W 0 u ((rqL code k qs nm p) ++ [9]) → RfGave u W code k qs nm p (((rqL code k qs nm p)).length : Int) true) := Lib.hid (fun u W hu => rq_back ha (by simp) (by simp) u W hu)
  obtain ⟨L, hL⟩ : ∃ L, rqL code k qs nm p = L := ⟨_, rfl⟩
  rw [hL] at O23 O3 hlen hm2 hA2 E E9 ⊢
  obtain ⟨hlen1, hlen2⟩ := hlen
  clear ha hL
  go_wp2_with fail
  refine (sameBytes_any _ _ L L _ O23.out.ints.zero O3.out).mono ?_
  rintro e w4 ⟨rfl, n4, rfl⟩
  rw [decide_eq_true rfl]
  obtain ⟨V, hV⟩ : ∃ V, w3.drewN n4 = V := ⟨_, rfl⟩
  have OV : Hid (Own V _ (.slice A2 L.length c2) L) := Lib.hid (by rw [← hV]; exact O23.out.drewN n4)
  have IV : Hid (Ints V 0 (.slice A1 qs.length c1) qs) := Lib.hid (by rw [← hV]; exact I3.out.drewN n4)
  have KV : Hid (Blk V w1.heap.size 43 #[.int .i64 code, .int .i64 k, .slice A1 qs.length c1, .string nm, .int .i64 p]) := Lib.hid (by rw [← hV]; exact K3.out.drewN n4)
  have BV : Hid (Below w.heap.size w V) := Lib.hid (by rw [← hV]; exact below_drewN B3.out n4)
  rw [hV]
  clear hV O23 O3 I3 K3 B3
  clear hA2
  go_wp2_with fail
  refine (E.out _ _ OV.out.ints.zero).mono ?_
  rintro e w5 ⟨q5, rfl, o5, b5⟩
  obtain ⟨A5, c5, rfl, _, _, _⟩ := o5.form
  obtain ⟨V5, hV5⟩ : ∃ V5, w5.alloc (.cells #[.int .i64 code, .int .i64 k, .slice A5 qs.length c5, .string nm, .int .i64 p] 43) = V5 := ⟨_, rfl⟩
  have K5 : Hid (Blk V5 w1.heap.size 43 #[.int .i64 code, .int .i64 k, .slice A1 qs.length c1, .string nm, .int .i64 p]) := Lib.hid (by rw [← hV5]; exact (KV.out.kept b5).alloc _)
  have X5 : Hid (Blk V5 w5.heap.size 43 #[.int .i64 code, .int .i64 k, .slice A5 qs.length c5, .string nm, .int .i64 p]) := Lib.hid (by rw [← hV5]; exact Blk.new _ _ _)
  have I5 : Hid (Ints V5 0 (.slice A1 qs.length c1) qs) := Lib.hid (by rw [← hV5]; exact (IV.out.below b5).alloc _)
  have O5 : Hid (Ints V5 0 (.slice A5 qs.length c5) qs) := Lib.hid (by rw [← hV5]; exact (o5.alloc _).ints.zero)
  have L5 : Hid (Ints V5 0 (.slice A2 L.length c2) L) := Lib.hid (by rw [← hV5]; exact ((OV.out.below b5).alloc _).ints.zero)
  have B5 : Hid (Below w.heap.size w V5) := Lib.hid (by
    rw [← hV5]
    have h := BV.out.trans (b5.mono BV.out.size)
    exact h.alloc h.size _)
  clear b5 o5 KV IV OV
  go_wp2_with (first
    | (at_builtin; refine wp_ints rfl (.tmp 57) (.tmp 58) rfl rfl rfl (Own.lit_0 (base := V5.heap.size) rfl (Nat.le_refl _)) (L5.out.alloc _) (by simp; omega) (by simp) ?_; intro v6 w6 o6 b6 g6 k6; rw [List.nil_append] at o6)
    | (at_builtin; refine wp_ints rfl (.tmp 59) (.tmp 60) rfl rfl rfl (o6.alloc _) (lit1 _ 9) (by simp; omega) (by have := b6.size; simp at this; simp; omega) ?_; intro v7 w7 o7 b7 g7 k7))
  clear hV5
  have b56 : Below V5.heap.size V5 w6 := ((Below.refl _ V5).alloc (Nat.le_refl _) _).trans b6
  have b57 : Below V5.heap.size V5 w7 := (b56.alloc b56.size _).trans b7
  have O7 := Lib.hid o7.ints.zero
  have K7 := Lib.hid (K5.out.kept b57)
  have X7 := Lib.hid (X5.out.kept b57)
  have I7 := Lib.hid (I5.out.below b57)
  have R7 := Lib.hid (O5.out.below b57)
  have B7 := Lib.hid (B5.out.trans (b57.mono B5.out.size))
  clear o6 b6 g6 k6 o7 b7 g7 k7 b56 b57 K5 X5 I5 O5 B5 L5
  refine (E9.out _ _ O7.out).mono ?_
  rintro e w8 ⟨q8, rfl, o8, b8⟩
  obtain ⟨A8, c8, rfl, _, _, _⟩ := o8.form
  obtain ⟨V8, hV8⟩ : ∃ V8, w8.alloc (.cells #[.int .i64 code, .int .i64 k, .slice A8 qs.length c8, .string nm, .int .i64 p] 43) = V8 := ⟨_, rfl⟩
  have K8 : Hid (Blk V8 w1.heap.size 43 #[.int .i64 code, .int .i64 k, .slice A1 qs.length c1, .string nm, .int .i64 p]) := Lib.hid (by rw [← hV8]; exact (K7.out.kept b8).alloc _)
  have X8 : Hid (Blk V8 w5.heap.size 43 #[.int .i64 code, .int .i64 k, .slice A5 qs.length c5, .string nm, .int .i64 p]) := Lib.hid (by rw [← hV8]; exact (X7.out.kept b8).alloc _)
  have Y8 : Hid (Blk V8 w8.heap.size 43 #[.int .i64 code, .int .i64 k, .slice A8 qs.length c8, .string nm, .int .i64 p]) := Lib.hid (by rw [← hV8]; exact Blk.new _ _ _)
  have I8 : Hid (Ints V8 0 (.slice A1 qs.length c1) qs) := Lib.hid (by rw [← hV8]; exact (I7.out.below b8).alloc _)
  have R8 : Hid (Ints V8 0 (.slice A5 qs.length c5) qs) := Lib.hid (by rw [← hV8]; exact (R7.out.below b8).alloc _)
  have O8 : Hid (Ints V8 0 (.slice A8 qs.length c8) qs) := Lib.hid (by rw [← hV8]; exact (o8.alloc _).ints.zero)
  have B8 : Hid (Below w.heap.size w V8) := Lib.hid (by
    rw [← hV8]
    have h := B7.out.trans (b8.mono B7.out.size)
    exact h.alloc h.size _)
  have a0 : V8.cell? ⟨w1.heap.size, 0, none⟩ = some (.int .i64 code) := K8.out.cell 0
  have a1 : V8.cell? ⟨w1.heap.size, 1, none⟩ = some (.int .i64 k) := K8.out.cell 1
  have a2 : V8.cell? ⟨w1.heap.size, 2, none⟩ = some (.slice A1 qs.length c1) := K8.out.cell 2
  have a3 : V8.cell? ⟨w1.heap.size, 3, none⟩ = some (.string nm) := K8.out.cell 3
  have a4 : V8.cell? ⟨w1.heap.size, 4, none⟩ = some (.int .i64 p) := K8.out.cell 4
  have x0 : V8.cell? ⟨w5.heap.size, 0, none⟩ = some (.int .i64 code) := X8.out.cell 0
  have x1 : V8.cell? ⟨w5.heap.size, 1, none⟩ = some (.int .i64 k) := X8.out.cell 1
  have x2 : V8.cell? ⟨w5.heap.size, 2, none⟩ = some (.slice A5 qs.length c5) := X8.out.cell 2
  have x3 : V8.cell? ⟨w5.heap.size, 3, none⟩ = some (.string nm) := X8.out.cell 3
  have x4 : V8.cell? ⟨w5.heap.size, 4, none⟩ = some (.int .i64 p) := X8.out.cell 4
  clear b8 o8 O7 K7 X7 I7 R7 B7
  go_wp2_with fail
  clear hV8 a0 a1 a2 a3 a4 x0 x1 x2 x3 x4
  refine (sameRequest_same code k _ _ nm p qs _ R8.out I8.out).mono ?_
  rintro e w9 ⟨rfl, b9⟩
  have K9 := Lib.hid (K8.out.kept b9)
  have Y9 := Lib.hid (Y8.out.kept b9)
  have I9 := Lib.hid (I8.out.below b9)
  have O9 := Lib.hid (O8.out.below b9)
  have B9 := Lib.hid (B8.out.trans (b9.mono B8.out.size))
  have a0 : w9.cell? ⟨w1.heap.size, 0, none⟩ = some (.int .i64 code) := K9.out.cell 0
  have a1 : w9.cell? ⟨w1.heap.size, 1, none⟩ = some (.int .i64 k) := K9.out.cell 1
  have a2 : w9.cell? ⟨w1.heap.size, 2, none⟩ = some (.slice A1 qs.length c1) := K9.out.cell 2
  have a3 : w9.cell? ⟨w1.heap.size, 3, none⟩ = some (.string nm) := K9.out.cell 3
  have a4 : w9.cell? ⟨w1.heap.size, 4, none⟩ = some (.int .i64 p) := K9.out.cell 4
  have y0 : w9.cell? ⟨w8.heap.size, 0, none⟩ = some (.int .i64 code) := Y9.out.cell 0
  have y1 : w9.cell? ⟨w8.heap.size, 1, none⟩ = some (.int .i64 k) := Y9.out.cell 1
  have y2 : w9.cell? ⟨w8.heap.size, 2, none⟩ = some (.slice A8 qs.length c8) := Y9.out.cell 2
  have y3 : w9.cell? ⟨w8.heap.size, 3, none⟩ = some (.string nm) := Y9.out.cell 3
  have y4 : w9.cell? ⟨w8.heap.size, 4, none⟩ = some (.int .i64 p) := Y9.out.cell 4
  clear b9 K8 X8 Y8 I8 R8 O8
  go_wp2_with fail
  refine (sameRequest_same code k _ _ nm p qs _ O9.out I9.out).mono ?_
  rintro e w10 ⟨rfl, b10⟩
  have B10 := Lib.hid (B9.out.trans (b10.mono B9.out.size))
  clear b10
  go_wp2_with fail
  go_ret
  exact ⟨rfl, B10.out⟩
set_option maxRecDepth 100000 in
theorem lifted (os : Os) (started : os.Started) (H : Type) (enc : TypeId × Value → H) :
    ReturnsInHanded {} Tryd.checked os 14 .any (fun w args => (Rows.fnRequestSpec.pre enc Tryd.prog Tryd.f14 Rows.fnRequestRow.domain false w args ∧ laidMetH Tryd.prog Rows.fnRequestRow.laid w) ∧ sizedMet enc Tryd.prog Tryd.f14 (OpenSpec.ofChange Rows.fnRequestSpec) false w args) (Rows.fnRequestSpec.post enc Tryd.prog Tryd.f14 false true false false) := by
  refine returnsInHanded_of_change_and (C := Tryd.checked) (X := fun w _ => laidMetH Tryd.prog Rows.fnRequestRow.laid w) (fun _ _ _ hh h => h.of_heap hh) Tryd.own started (by kernel_rfl) Tryd.func14
    (ChangeSpec.witness_shaped (enc := enc) (C := Tryd.checked) (os := os) (X := fun w _ => laidMetH Tryd.prog Rows.fnRequestRow.laid w) false (World.laidAll Tryd.prog os Rows.fnRequestRow.laid) #[.slice none 0 0] 8 (World.laidAll_os _ _ _)
      (World.shaped_of_ZipB (by kernel_rfl) (by kernel_rfl)) (by kernel_rfl) (by kernel_rfl) (by kernel_rfl)
      (by rw [MakeChecks.laidMetH_plain _ _ _ (by kernel_rfl)]; exact laidMet_laidAll _ (by kernel_rfl) (by kernel_rfl))) ?_
  intro W base args ds gs before hval0 hW hcnd _ _ _
  have hval : ∀ (j : Nat) t v, Tryd.f14.params[j]? = some t → args[j]? = some v → Value.okWide Tryd.prog W .any base t v := hval0
  have hW' := hW
  obtain ⟨p, q, hA0, hV, rfl, hfz, hnd⟩ := hW
  have hA : DataW.TrodAll enc Tryd.prog W 0 (fun _ => true) true Tryd.f14.params.toList args.toList ds p := hA0
  rw [Tryd.params14] at hA hval
  obtain ⟨v0, vs0, d0, ds0, p0, q0, hargs, rfl, rfl, h0, r0⟩ := trodAll_cons hA
  obtain ⟨rfl, rfl, rfl⟩ := trodAll_nil r0
  obtain rfl : args = #[v0] := by cases args; simp_all
  obtain ⟨rfl, rfl⟩ := trodVars_none hV
  obtain ⟨a0, len0, cap0, rfl⟩ := okWide_slice Tryd.underlying22 (hval 0 22 v0 rfl rfl)
  have k0 := h0
  have lt0 : ∀ x ∈ p0, x.block < W.heap.size := by obtain ⟨m, hm⟩ := k0; exact DataW.trod_lt m _ _ _ hm
  obtain ⟨z0, w0⟩ : ∃ zs, IsRow .u8 W a0 len0 cap0 zs := by
    obtain ⟨fuel, hf⟩ := h0
    rcases open_ints Tryd.underlying22 Tryd.underlying5 (by kernel_rfl) hf with ⟨hcs, _⟩ | ⟨x, l, c, zs, hcs, _, hl, hm, hz, _, hcell, hwz⟩
    · simp [Value.cells] at hcs
      obtain ⟨rfl, rfl, rfl⟩ := hcs
      exact ⟨[], .inl ⟨rfl, rfl, rfl, rfl⟩⟩
    · simp [Value.cells] at hcs
      obtain ⟨rfl, rfl, rfl⟩ := hcs
      exact ⟨zs, .inr ⟨_, rfl, hl, hm, by simpa using hz, hcell, hwz⟩⟩
  clear hA0 hval0
  refine (walk (.slice a0 len0 cap0) _ W ((Came.of_row w0).1)).mono fun e W' ⟨he, bel⟩ => ?_
  subst he
  exact ⟨_, rfl, _, _, _, [], _, [], hW', trodAll_mk1 (shut_bool Tryd.underlying4 _), (trodAll_cons_mk (Below.trod Tryd.laidOut (by kernel_rfl) (of_decide_eq_true (by kernel_rfl)) k0 bel lt0) trodAll_mk0), rfl, bel.frame _, fun h => by cases h⟩

theorem closed : joinedFacts Tryd.prog 14 Tryd.f14 Rows.fnRequestSpec Rows.fnRequestRow = true := by
  unfold joinedFacts
  repeat' (with_reducible refine band ?_ ?_)
  all_goals (with_reducible (first | exact Tryd.laidOut | exact kMaps | exact kStops | exact kKnobs | exact kHeard | exact kEnter | refine eqPlain ?_ | refine eqLift ?_ | refine eqMake ?_ | skip))
  all_goals (as_aux_lemma => kernel_rfl)

/-- The row -/
theorem row_holds : Rows.FnRequestSaid :=
  OpenClaim.holds_of_wide 14 Tryd.f14 rfl rfl rfl rfl rfl rfl rfl ⟨rfl, rfl, rfl, rfl, rfl⟩ rfl rfl rfl rfl rfl (by as_aux_lemma => kernel_rfl) Tryd.func14 closed
    (of_decide_eq_true (by as_aux_lemma => kernel_rfl)) (by unfold Func.isWrapper; first | (rw [if_pos (by decide +kernel)]; kernel_rfl) | (rw [if_neg (by decide +kernel)]; exact ⟨rfl, rfl⟩))
    (fun os started H enc _ => lifted os started H enc)

set_option maxRecDepth 100000 in
/-- THE STATEMENT -/
theorem proved : Rows.FnRequestCardSaid :=
  Claim7.holds_tied_plain_at .later [] [.data, .pinned] true (true, "ddde8ea9baa7a1e5dd8529c3c4e771e6d4cb3dba0431e3a41231ca5bdcf81568") false row_holds (fun _ h => by cases h) (by as_aux_lemma => kernel_rfl) (fun _ h => by cases h) fnRequest_row_tie rfl ⟨rfl, rfl⟩ (by as_aux_lemma => kernel_rfl) rfl
    (fun f fn hf hfn => by
      obtain rfl : f = 14 := Option.some.inj ((show Tryd.prog.funcNamed "loop.example/proxyframes/laws.FnRequest" = some 14 by kernel_rfl).symm.trans hf) |>.symm
      obtain rfl : fn = Tryd.f14 := (Option.some.inj (Tryd.func14.symm.trans hfn)).symm
      exact ⟨by kernel_rfl, fun j t ht => by
        rw [Tryd.params14] at ht
        have hm : t ∈ [22] := by simpa using Array.mem_of_getElem? ht
        have hall : ([22].all fun u => !Tryd.prog.wantsStandIn u) = true := by kernel_rfl
        exact (show Tryd.prog.wantsStandIn t = false by simpa using List.all_eq_true.1 hall t hm)⟩)
    (by as_aux_lemma => kernel_rfl)
end Go.Proofs.YtahlgdehfjjoeaaDoor.fnRequest

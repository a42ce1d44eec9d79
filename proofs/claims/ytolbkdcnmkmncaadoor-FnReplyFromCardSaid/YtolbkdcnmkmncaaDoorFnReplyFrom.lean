/-
  A reply has its bytes: true for every code. Conditions: none.
-/
import Derived.Test.YtolbkdcnmkmncaaDoorKitC
import Derived.Test.YtolbkdcnmkmncaaDoorDrawRqFrom
import Derived.Test.YtolbkdcnmkmncaaDoorRf2
import Derived.Test.YtolbkdcnmkmncaaDoorSameAd
import Derived.Test.YtolbkdcnmkmncaaDoorBegin
import Derived.Test.YtolbkdcnmkmncaaDoorCodeBytes
namespace Go.Proofs.YtolbkdcnmkmncaaDoor.fnReplyFrom
open Go.ChangeShapes Go.WideShapes Go.ChangeAt Go.RowKit

/-- Bytes that were read begin with the bytes of what was read. -/
theorem begin_of {zs : List Int} (h : efOk zs = true) : ∃ L : List Int, fxN true zs = (L.length : Int) ∧ rpOk (fxC true zs) (fxK true zs) (fxQ true zs) (fxM true zs) (fxP true zs) = true ∧ rpL (fxC true zs) (fxK true zs) (fxQ true zs) (fxM true zs) (fxP true zs) = L ∧ beginL zs L = true := by
  obtain ⟨h1, h2⟩ := ef_fore h
  have hr := ef_rp h
  have hl : (zs.take (3 + aN (zs.drop 3))).length = 3 + aN (zs.drop 3) := by rw [List.length_take]; omega
  refine ⟨zs.take (3 + aN (zs.drop 3)), by rw [hl]; rfl, hr, ?_, ?_⟩
  · rw [rpL, if_pos hr, h1]
  · rw [beginL, hl, decide_eq_true h2]
    simp

set_option maxRecDepth 100000 in
set_option maxHeartbeats 4000000 in
theorem walk (v : Value) (bs : List Int) (w : World) (hv : Came .u8 w w.heap.size v bs) : Calls Tryd.prog 3 #[v] w fun e w' => e = .returned (.bool true) ∧ Below w.heap.size w w' := by
  have hv0 := Lib.hid hv
  obtain ⟨A, c, rfl, hc, hm, _, _⟩ := hv
  by_cases hl : 1048576 < bs.length
  · have hl' : (1048576 : Int) < (bs.length : Int) := by omega
    go_enter Tryd.func3, Tryd.ntmps3
    go_wp2_with fail
    go_ret
    exact ⟨rfl, Below.refl _ _⟩
  have hl' : (bs.length : Int) ≤ 1048576 := by omega
  clear hl
  go_enter Tryd.func3, Tryd.ntmps3
  go_wp2_with fail
  refine (DrawReplyFrom_any _ bs w hv0.out).mono ?_
  rintro e w1 ⟨v1, zs, rfl, i1, hz, b1⟩
  have I1 := Lib.hid i1
  have B1 := Lib.hid b1
  obtain ⟨C, K, M, P, N, b, Q, hT, hQ, hB⟩ : ∃ C K M P N b Q, (∀ q, EfT (efOk zs) zs q = .tuple #[.int .i64 C, .agg #[.int .i64 K, q, .string M, .int .i64 P], .int .i64 N, .bool b]) ∧ fxQ (efOk zs) zs = Q ∧ (b = true → M.size < 4294967281 ∧ ∃ L : List Int, N = (L.length : Int) ∧ rpOk C K Q M P = true ∧ rpL C K Q M P = L ∧ beginL zs L = true) := by
    refine ⟨_, _, _, _, _, _, _, fun _ => rfl, rfl, fun h => ⟨?_, ?_⟩⟩
    · have := fxM_len (efOk zs) zs fun h => (efOk_cf h).1
      omega
    · rw [h]
      exact begin_of h
  have HI : Hid (∀ u W, Ints W 0 u zs → Calls Tryd.prog 16 #[u] W fun e w' => ∃ q, e = .returned (.tuple #[.int .i64 C, .agg #[.int .i64 K, q, .string M, .int .i64 P], .int .i64 N, .bool b]) ∧ Own w' W.heap.size q Q ∧ Below W.heap.size W w') := Lib.hid fun u W h =>
    (impl_ReplyFrom_any u zs W h).mono fun e w' ⟨q, h1, h2, h3⟩ => ⟨q, by rw [h1, hT], by rw [← hQ]; exact h2, h3⟩
  have HS : Hid (∀ u W, Ints W 0 u zs → Calls Tryd.prog 17 #[u] W fun e w' => ∃ q, e = .returned (.tuple #[.int .i64 C, .agg #[.int .i64 K, q, .string M, .int .i64 P], .int .i64 N, .bool b]) ∧ Own w' W.heap.size q Q ∧ Below W.heap.size W w') := Lib.hid fun u W h =>
    (spec_ReplyFrom_any u zs W h).mono fun e w' ⟨q, h1, h2, h3⟩ => ⟨q, by rw [h1, hT], by rw [← hQ]; exact h2, h3⟩
  have HB := Lib.hid hB
  clear i1 b1 hT hQ hB
  go_wp2_with fail
  refine (HI.out _ _ I1.out).mono ?_
  rintro e w2 ⟨q2, rfl, o2, b2⟩
  obtain ⟨A2, c2, rfl, _, _, _⟩ := o2.form
  obtain ⟨V2, hV2⟩ : ∃ V2, w2.alloc (.cells #[.int .i64 K, .slice A2 Q.length c2, .string M, .int .i64 P] 26) = V2 := ⟨_, rfl⟩
  have X2 : Hid (Blk V2 w2.heap.size 26 #[.int .i64 K, .slice A2 Q.length c2, .string M, .int .i64 P]) := Lib.hid (by rw [← hV2]; exact Blk.new _ _ _)
  have O2 : Hid (Ints V2 0 (.slice A2 Q.length c2) Q) := Lib.hid (by rw [← hV2]; exact (o2.alloc _).ints.zero)
  have I2 : Hid (Ints V2 0 v1 zs) := Lib.hid (by rw [← hV2]; exact (I1.out.below b2).alloc _)
  have B2 : Hid (Below w.heap.size w V2) := Lib.hid (by
    rw [← hV2]
    have h := B1.out.trans (b2.mono B1.out.size)
    exact h.alloc h.size _)
  clear o2 b2 I1 B1
  go_wp2_with fail
  clear hV2
  refine (HS.out _ _ I2.out).mono ?_
  rintro e w3 ⟨q3, rfl, o3, b3⟩
  obtain ⟨A3, c3, rfl, _, _, _⟩ := o3.form
  obtain ⟨V3, hV3⟩ : ∃ V3, w3.alloc (.cells #[.int .i64 K, .slice A3 Q.length c3, .string M, .int .i64 P] 26) = V3 := ⟨_, rfl⟩
  have X3 : Hid (Blk V3 w2.heap.size 26 #[.int .i64 K, .slice A2 Q.length c2, .string M, .int .i64 P]) := Lib.hid (by rw [← hV3]; exact (X2.out.kept b3).alloc _)
  have Y3 : Hid (Blk V3 w3.heap.size 26 #[.int .i64 K, .slice A3 Q.length c3, .string M, .int .i64 P]) := Lib.hid (by rw [← hV3]; exact Blk.new _ _ _)
  have O23 : Hid (Ints V3 0 (.slice A2 Q.length c2) Q) := Lib.hid (by rw [← hV3]; exact (O2.out.below b3).alloc _)
  have O3 : Hid (Ints V3 0 (.slice A3 Q.length c3) Q) := Lib.hid (by rw [← hV3]; exact (o3.alloc _).ints.zero)
  have I3 : Hid (Ints V3 0 v1 zs) := Lib.hid (by rw [← hV3]; exact (I2.out.below b3).alloc _)
  have B3 : Hid (Below w.heap.size w V3) := Lib.hid (by
    rw [← hV3]
    have h := B2.out.trans (b3.mono B2.out.size)
    exact h.alloc h.size _)
  have x0 : V3.cell? ⟨w2.heap.size, 0, none⟩ = some (.int .i64 K) := X3.out.cell 0
  have x1 : V3.cell? ⟨w2.heap.size, 1, none⟩ = some (.slice A2 Q.length c2) := X3.out.cell 1
  have x2 : V3.cell? ⟨w2.heap.size, 2, none⟩ = some (.string M) := X3.out.cell 2
  have x3 : V3.cell? ⟨w2.heap.size, 3, none⟩ = some (.int .i64 P) := X3.out.cell 3
  have y0 : V3.cell? ⟨w3.heap.size, 0, none⟩ = some (.int .i64 K) := Y3.out.cell 0
  have y1 : V3.cell? ⟨w3.heap.size, 1, none⟩ = some (.slice A3 Q.length c3) := Y3.out.cell 1
  have y2 : V3.cell? ⟨w3.heap.size, 2, none⟩ = some (.string M) := Y3.out.cell 2
  have y3 : V3.cell? ⟨w3.heap.size, 3, none⟩ = some (.int .i64 P) := Y3.out.cell 3
  clear o3 b3 X2 O2 I2 B2 HI HS
  cases b
  · clear HB
    go_wp2_with fail
    clear hV3 x0 x1 x2 x3 y0 y1 y2 y3
    refine (sameAddress_same K _ _ M P Q _ O23.out O3.out).mono ?_
    rintro e w4 ⟨rfl, b4⟩
    have X4 := Lib.hid (X3.out.kept b4)
    have Y4 := Lib.hid (Y3.out.kept b4)
    have O24 := Lib.hid (O23.out.below b4)
    have O4 := Lib.hid (O3.out.below b4)
    have B4 := Lib.hid (B3.out.trans (b4.mono B3.out.size))
    have x0 : w4.cell? ⟨w2.heap.size, 0, none⟩ = some (.int .i64 K) := X4.out.cell 0
    have x1 : w4.cell? ⟨w2.heap.size, 1, none⟩ = some (.slice A2 Q.length c2) := X4.out.cell 1
    have x2 : w4.cell? ⟨w2.heap.size, 2, none⟩ = some (.string M) := X4.out.cell 2
    have x3 : w4.cell? ⟨w2.heap.size, 3, none⟩ = some (.int .i64 P) := X4.out.cell 3
    have y0 : w4.cell? ⟨w3.heap.size, 0, none⟩ = some (.int .i64 K) := Y4.out.cell 0
    have y1 : w4.cell? ⟨w3.heap.size, 1, none⟩ = some (.slice A3 Q.length c3) := Y4.out.cell 1
    have y2 : w4.cell? ⟨w3.heap.size, 2, none⟩ = some (.string M) := Y4.out.cell 2
    have y3 : w4.cell? ⟨w3.heap.size, 3, none⟩ = some (.int .i64 P) := Y4.out.cell 3
    clear b4 X3 Y3 O23 O3 B3 I3
    go_wp2_with fail
    refine (sameAddress_same K _ _ M P Q _ O24.out O4.out).mono ?_
    rintro e w5 ⟨rfl, b5⟩
    have B5 := Lib.hid (B4.out.trans (b5.mono B4.out.size))
    clear b5
    go_wp2_with fail
    go_ret
    exact ⟨rfl, B5.out⟩
  · obtain ⟨hns, L, hN, hok, hL, hbg⟩ := HB.out rfl
    subst hN
    have EL := Lib.hid hL
    have EO := Lib.hid hok
    have EB := Lib.hid hbg
    clear HB hok hL hbg
    go_wp2_with fail
    clear hV3 x0 x1 x2 x3 y0 y1 y2 y3
    refine (sameAddress_same K _ _ M P Q _ O23.out O3.out).mono ?_
    rintro e w4 ⟨rfl, b4⟩
    have X4 := Lib.hid (X3.out.kept b4)
    have O24 := Lib.hid (O23.out.below b4)
    have I4 := Lib.hid (I3.out.below b4)
    have B4 := Lib.hid (B3.out.trans (b4.mono B3.out.size))
    have x0 : w4.cell? ⟨w2.heap.size, 0, none⟩ = some (.int .i64 K) := X4.out.cell 0
    have x1 : w4.cell? ⟨w2.heap.size, 1, none⟩ = some (.slice A2 Q.length c2) := X4.out.cell 1
    have x2 : w4.cell? ⟨w2.heap.size, 2, none⟩ = some (.string M) := X4.out.cell 2
    have x3 : w4.cell? ⟨w2.heap.size, 3, none⟩ = some (.int .i64 P) := X4.out.cell 3
    clear b4 X3 Y3 O23 O3 B3 I3
    go_wp2_with fail
    refine (impl_ReplyBytes_any C K _ M P Q _ O24.out hns).mono ?_
    rintro e w5 ⟨v5, rfl, o5, b5⟩
    rw [EO.out]
    rw [EL.out] at o5
    obtain ⟨A5, c5, rfl, _, _, _⟩ := o5.form
    have O5 := Lib.hid o5.ints.zero
    have I5 := Lib.hid (I4.out.below b5)
    have B5 := Lib.hid (B4.out.trans (b5.mono B4.out.size))
    clear o5 b5 X4 O24 I4 B4 x0 x1 x2 x3
    go_wp2_with fail
    refine (isBegin_any _ _ zs L _ I5.out O5.out).mono ?_
    rintro e w6 ⟨rfl, n6, rfl⟩
    rw [EB.out]
    go_wp2_with fail
    go_ret
    exact ⟨rfl, below_drewN B5.out n6⟩
set_option maxRecDepth 100000 in
theorem lifted (os : Os) (started : os.Started) (H : Type) (enc : TypeId × Value → H) :
    ReturnsInHanded {} Tryd.checked os 3 .any (fun w args => (Rows.fnReplyFromSpec.pre enc Tryd.prog Tryd.f3 Rows.fnReplyFromRow.domain false w args ∧ laidMetH Tryd.prog Rows.fnReplyFromRow.laid w) ∧ sizedMet enc Tryd.prog Tryd.f3 (OpenSpec.ofChange Rows.fnReplyFromSpec) false w args) (Rows.fnReplyFromSpec.post enc Tryd.prog Tryd.f3 false true false false) := by
  refine returnsInHanded_of_change_and (C := Tryd.checked) (X := fun w _ => laidMetH Tryd.prog Rows.fnReplyFromRow.laid w) (fun _ _ _ hh h => h.of_heap hh) Tryd.own started (by kernel_rfl) Tryd.func3
    (ChangeSpec.witness_shaped (enc := enc) (C := Tryd.checked) (os := os) (X := fun w _ => laidMetH Tryd.prog Rows.fnReplyFromRow.laid w) false (World.laidAll Tryd.prog os Rows.fnReplyFromRow.laid) #[.slice none 0 0] 8 (World.laidAll_os _ _ _)
      (World.shaped_of_ZipB (by kernel_rfl) (by kernel_rfl)) (by kernel_rfl) (by kernel_rfl) (by kernel_rfl)
      (by rw [MakeChecks.laidMetH_plain _ _ _ (by kernel_rfl)]; exact laidMet_laidAll _ (by kernel_rfl) (by kernel_rfl))) ?_
  intro W base args ds gs before hval0 hW hcnd _ _ _
  have hval : ∀ (j : Nat) t v, Tryd.f3.params[j]? = some t → args[j]? = some v → Value.okWide Tryd.prog W .any base t v := hval0
  have hW' := hW
  obtain ⟨p, q, hA0, hV, rfl, hfz, hnd⟩ := hW
  have hA : DataW.TrodAll enc Tryd.prog W 0 (fun _ => true) true Tryd.f3.params.toList args.toList ds p := hA0
  rw [Tryd.params3] at hA hval
  obtain ⟨v0, vs0, d0, ds0, p0, q0, hargs, rfl, rfl, h0, r0⟩ := trodAll_cons hA
  obtain ⟨rfl, rfl, rfl⟩ := trodAll_nil r0
  obtain rfl : args = #[v0] := by cases args; simp_all
  obtain ⟨rfl, rfl⟩ := trodVars_none hV
  obtain ⟨a0, len0, cap0, rfl⟩ := okWide_slice Tryd.underlying22 (hval 0 22 v0 rfl rfl)
  have k0 := h0
  have lt0 : ∀ x ∈ p0, x.block < W.heap.size := by obtain ⟨m, hm⟩ := k0; exact DataW.trod_lt m _ _ _ hm
  obtain ⟨z0, w0⟩ : ∃ zs, IsRow .u8 W a0 len0 cap0 zs := by
    obtain ⟨fuel, hf⟩ := h0
    rcases open_ints Tryd.underlying22 Tryd.underlying5 (by kernel_rfl) hf with ⟨hcs, _⟩ | ⟨x, l, c, zs, hcs, _, hl, hm, hz, _, hcell, hwz⟩
    · simp [Value.cells] at hcs
      obtain ⟨rfl, rfl, rfl⟩ := hcs
      exact ⟨[], .inl ⟨rfl, rfl, rfl, rfl⟩⟩
    · simp [Value.cells] at hcs
      obtain ⟨rfl, rfl, rfl⟩ := hcs
      exact ⟨zs, .inr ⟨_, rfl, hl, hm, by simpa using hz, hcell, hwz⟩⟩
  clear hA0 hval0
  refine (walk (.slice a0 len0 cap0) _ W ((Came.of_row w0).1)).mono fun e W' ⟨he, bel⟩ => ?_
  subst he
  exact ⟨_, rfl, _, _, _, [], _, [], hW', trodAll_mk1 (shut_bool Tryd.underlying4 _), (trodAll_cons_mk (Below.trod Tryd.laidOut (by kernel_rfl) (of_decide_eq_true (by kernel_rfl)) k0 bel lt0) trodAll_mk0), rfl, bel.frame _, fun h => by cases h⟩

theorem closed : joinedFacts Tryd.prog 3 Tryd.f3 Rows.fnReplyFromSpec Rows.fnReplyFromRow = true := by
  unfold joinedFacts
  repeat' (with_reducible refine band ?_ ?_)
  all_goals (with_reducible (first | exact Tryd.laidOut | exact kMaps | exact kStops | exact kKnobs | exact kHeard | exact kEnter | refine eqPlain ?_ | refine eqLift ?_ | refine eqMake ?_ | skip))
  all_goals (as_aux_lemma => kernel_rfl)

/-- The row -/
theorem row_holds : Rows.FnReplyFromSaid :=
  OpenClaim.holds_of_wide 3 Tryd.f3 rfl rfl rfl rfl rfl rfl rfl ⟨rfl, rfl, rfl, rfl, rfl⟩ rfl rfl rfl rfl rfl (by as_aux_lemma => kernel_rfl) Tryd.func3 closed
    (of_decide_eq_true (by as_aux_lemma => kernel_rfl)) (by unfold Func.isWrapper; first | (rw [if_pos (by decide +kernel)]; kernel_rfl) | (rw [if_neg (by decide +kernel)]; exact ⟨rfl, rfl⟩))
    (fun os started H enc _ => lifted os started H enc)

set_option maxRecDepth 100000 in
/-- THE STATEMENT -/
theorem proved : Rows.FnReplyFromCardSaid :=
  Claim7.holds_tied_plain_at .later [] [.data, .pinned] true (true, "71cb2da78bc50782ad828c61a4547b3a4c8bb6d1fee47442386dd17ce480b237") false row_holds (fun _ h => by cases h) (by as_aux_lemma => kernel_rfl) (fun _ h => by cases h) fnReplyFrom_row_tie rfl ⟨rfl, rfl⟩ (by as_aux_lemma => kernel_rfl) rfl
    (fun f fn hf hfn => by
      obtain rfl : f = 3 := Option.some.inj ((show Tryd.prog.funcNamed "loop.example/proxyframes/laws.FnReplyFrom" = some 3 by kernel_rfl).symm.trans hf) |>.symm
      obtain rfl : fn = Tryd.f3 := (Option.some.inj (Tryd.func3.symm.trans hfn)).symm
      exact ⟨by kernel_rfl, fun j t ht => by
        rw [Tryd.params3] at ht
        have hm : t ∈ [22] := by simpa using Array.mem_of_getElem? ht
        have hall : ([22].all fun u => !Tryd.prog.wantsStandIn u) = true := by kernel_rfl
        exact (show Tryd.prog.wantsStandIn t = false by simpa using List.all_eq_true.1 hall t hm)⟩)
    (by as_aux_lemma => kernel_rfl)
end Go.Proofs.YtolbkdcnmkmncaaDoor.fnReplyFrom

/-
  A packet has its bytes: true for every code. Conditions: none.
-/
import Derived.Test.YtolbkdcnmkmncaaDoorKitC
import Derived.Test.YtolbkdcnmkmncaaDoorDrawPk
import Derived.Test.YtolbkdcnmkmncaaDoorPkFrom
import Derived.Test.YtolbkdcnmkmncaaDoorPkLaws2
namespace Go.Proofs.YtolbkdcnmkmncaaDoor.fnPacketFrom
open Go.ChangeShapes Go.WideShapes Go.ChangeAt Go.RowKit

theorem back_of {zs : List Int} (h : ppOk zs = true) : pkOk (ppF true zs) (ppK true zs) (ppQ true zs) (ppM true zs) (ppP true zs) (ppE true zs) = true ∧ pkL (ppF true zs) (ppK true zs) (ppQ true zs) (ppM true zs) (ppP true zs) (ppE true zs) = zs := by
  have hin : ppIn zs = true := by
    rw [ppOk, Bool.and_eq_true, Bool.and_eq_true] at h
    exact h.1.1
  have h1 : pkOk (ppF true zs) (ppK true zs) (ppQ true zs) (ppM true zs) (ppP true zs) (ppE true zs) = true := (pp_pk hin).trans h
  exact ⟨h1, (pkL_ok h1).trans (pk_fore hin)⟩
theorem ppM_len (zs : List Int) : (ppM (ppOk zs) zs).size < 4294967281 := by
  cases h : ppOk zs
  · show ByteArray.empty.size < 4294967281
    decide
  · have := (adOk_sizes (pkOk_parts (back_of h).1).2.1).2
    omega

set_option maxRecDepth 100000 in
set_option maxHeartbeats 4000000 in
theorem walk (v : Value) (bs : List Int) (w : World) (hv : Came .u8 w w.heap.size v bs) : Calls Tryd.prog 9 #[v] w fun e w' => e = .returned (.bool true) ∧ Below w.heap.size w w' := by
  have hv0 := Lib.hid hv
  obtain ⟨A, c, rfl, hc, hm, _, _⟩ := hv
  by_cases hl : 1048576 < bs.length
  · have hl' : (1048576 : Int) < (bs.length : Int) := by omega
    go_enter Tryd.func9, Tryd.ntmps9
    go_wp2_with fail
    go_ret
    exact ⟨rfl, Below.refl _ _⟩
  have hl' : (bs.length : Int) ≤ 1048576 := by omega
  clear hl
  go_enter Tryd.func9, Tryd.ntmps9
  go_wp2_with fail
  refine (DrawPacketFrom_any _ bs w hv0.out).mono ?_
  rintro e w1 ⟨v1, zs, rfl, i1, hz, b1⟩
  have I1 := Lib.hid i1
  have B1 := Lib.hid b1
  obtain ⟨C, K, M, P, b, Q, E, hT, hQ, hE, hM, hB⟩ : ∃ C K M P b Q E, (∀ q d, PpT (ppOk zs) zs q d = .tuple #[.agg #[.int .i64 C, .int .i64 K, q, .string M, .int .i64 P, d], .bool b]) ∧ ppQ (ppOk zs) zs = Q ∧ ppE (ppOk zs) zs = E ∧ M.size < 4294967281 ∧ (b = true → pkOk C K Q M P E = true ∧ pkL C K Q M P E = zs) := by
    refine ⟨_, _, _, _, _, _, _, fun _ _ => rfl, rfl, rfl, ppM_len zs, fun h => ?_⟩
    rw [h]
    exact back_of h
  have HI : Hid (∀ u W, Ints W 0 u zs → Calls Tryd.prog 40 #[u] W fun e w' => ∃ q d, e = .returned (.tuple #[.agg #[.int .i64 C, .int .i64 K, q, .string M, .int .i64 P, d], .bool b]) ∧ Own w' W.heap.size q Q ∧ Own w' W.heap.size d E ∧ Below W.heap.size W w') := Lib.hid fun u W h =>
    (impl_PacketFrom_any u zs W h).mono fun e w' ⟨q, d, h1, h2, h3, _, h5⟩ => ⟨q, d, by rw [h1, hT], by rw [← hQ]; exact h2, by rw [← hE]; exact h3, h5⟩
  have HS : Hid (∀ u W, Ints W 0 u zs → Calls Tryd.prog 38 #[u] W fun e w' => ∃ q d, e = .returned (.tuple #[.agg #[.int .i64 C, .int .i64 K, q, .string M, .int .i64 P, d], .bool b]) ∧ Own w' W.heap.size q Q ∧ Own w' W.heap.size d E ∧ Below W.heap.size W w') := Lib.hid fun u W h =>
    (spec_PacketFrom_any u zs W h).mono fun e w' ⟨q, d, h1, h2, h3, _, h5⟩ => ⟨q, d, by rw [h1, hT], by rw [← hQ]; exact h2, by rw [← hE]; exact h3, h5⟩
  have HB := Lib.hid hB
  clear i1 b1 hT hQ hE hB
  go_wp2_with fail
  refine (HI.out _ _ I1.out).mono ?_
  rintro e w2 ⟨q2, d2, rfl, o2, p2, b2⟩
  obtain ⟨A2, c2, rfl, _, _, _⟩ := o2.form
  obtain ⟨D2, e2, rfl, _, _, _⟩ := p2.form
  obtain ⟨V2, hV2⟩ : ∃ V2, w2.alloc (.cells #[.int .i64 C, .int .i64 K, .slice A2 Q.length c2, .string M, .int .i64 P, .slice D2 E.length e2] 41) = V2 := ⟨_, rfl⟩
  have X2 : Hid (Blk V2 w2.heap.size 41 #[.int .i64 C, .int .i64 K, .slice A2 Q.length c2, .string M, .int .i64 P, .slice D2 E.length e2]) := Lib.hid (by rw [← hV2]; exact Blk.new _ _ _)
  have O2 : Hid (Ints V2 0 (.slice A2 Q.length c2) Q) := Lib.hid (by rw [← hV2]; exact (o2.alloc _).ints.zero)
  have P2 : Hid (Ints V2 0 (.slice D2 E.length e2) E) := Lib.hid (by rw [← hV2]; exact (p2.alloc _).ints.zero)
  have I2 : Hid (Ints V2 0 v1 zs) := Lib.hid (by rw [← hV2]; exact (I1.out.below b2).alloc _)
  have B2 : Hid (Below w.heap.size w V2) := Lib.hid (by
    rw [← hV2]
    have h := B1.out.trans (b2.mono B1.out.size)
    exact h.alloc h.size _)
  clear o2 p2 b2 I1 B1
  go_wp2_with fail
  clear hV2
  refine (HS.out _ _ I2.out).mono ?_
  rintro e w3 ⟨q3, d3, rfl, o3, p3, b3⟩
  obtain ⟨A3, c3, rfl, _, _, _⟩ := o3.form
  obtain ⟨D3, e3, rfl, _, _, _⟩ := p3.form
  obtain ⟨V3, hV3⟩ : ∃ V3, w3.alloc (.cells #[.int .i64 C, .int .i64 K, .slice A3 Q.length c3, .string M, .int .i64 P, .slice D3 E.length e3] 41) = V3 := ⟨_, rfl⟩
  have X3 : Hid (Blk V3 w2.heap.size 41 #[.int .i64 C, .int .i64 K, .slice A2 Q.length c2, .string M, .int .i64 P, .slice D2 E.length e2]) := Lib.hid (by rw [← hV3]; exact (X2.out.kept b3).alloc _)
  have Y3 : Hid (Blk V3 w3.heap.size 41 #[.int .i64 C, .int .i64 K, .slice A3 Q.length c3, .string M, .int .i64 P, .slice D3 E.length e3]) := Lib.hid (by rw [← hV3]; exact Blk.new _ _ _)
  have O23 : Hid (Ints V3 0 (.slice A2 Q.length c2) Q) := Lib.hid (by rw [← hV3]; exact (O2.out.below b3).alloc _)
  have P23 : Hid (Ints V3 0 (.slice D2 E.length e2) E) := Lib.hid (by rw [← hV3]; exact (P2.out.below b3).alloc _)
  have O3 : Hid (Ints V3 0 (.slice A3 Q.length c3) Q) := Lib.hid (by rw [← hV3]; exact (o3.alloc _).ints.zero)
  have P3 : Hid (Ints V3 0 (.slice D3 E.length e3) E) := Lib.hid (by rw [← hV3]; exact (p3.alloc _).ints.zero)
  have I3 : Hid (Ints V3 0 v1 zs) := Lib.hid (by rw [← hV3]; exact (I2.out.below b3).alloc _)
  have B3 : Hid (Below w.heap.size w V3) := Lib.hid (by
    rw [← hV3]
    have h := B2.out.trans (b3.mono B2.out.size)
    exact h.alloc h.size _)
  have x0 : V3.cell? ⟨w2.heap.size, 0, none⟩ = some (.int .i64 C) := X3.out.cell 0
  have x1 : V3.cell? ⟨w2.heap.size, 1, none⟩ = some (.int .i64 K) := X3.out.cell 1
  have x2 : V3.cell? ⟨w2.heap.size, 2, none⟩ = some (.slice A2 Q.length c2) := X3.out.cell 2
  have x3 : V3.cell? ⟨w2.heap.size, 3, none⟩ = some (.string M) := X3.out.cell 3
  have x4 : V3.cell? ⟨w2.heap.size, 4, none⟩ = some (.int .i64 P) := X3.out.cell 4
  have x5 : V3.cell? ⟨w2.heap.size, 5, none⟩ = some (.slice D2 E.length e2) := X3.out.cell 5
  have y0 : V3.cell? ⟨w3.heap.size, 0, none⟩ = some (.int .i64 C) := Y3.out.cell 0
  have y1 : V3.cell? ⟨w3.heap.size, 1, none⟩ = some (.int .i64 K) := Y3.out.cell 1
  have y2 : V3.cell? ⟨w3.heap.size, 2, none⟩ = some (.slice A3 Q.length c3) := Y3.out.cell 2
  have y3 : V3.cell? ⟨w3.heap.size, 3, none⟩ = some (.string M) := Y3.out.cell 3
  have y4 : V3.cell? ⟨w3.heap.size, 4, none⟩ = some (.int .i64 P) := Y3.out.cell 4
  have y5 : V3.cell? ⟨w3.heap.size, 5, none⟩ = some (.slice D3 E.length e3) := Y3.out.cell 5
  clear o3 p3 b3 X2 O2 P2 I2 B2 HI HS
  cases b
  · clear HB
    go_wp2_with fail
    clear hV3 x0 x1 x2 x3 x4 x5 y0 y1 y2 y3 y4 y5
    refine (samePacket_same C K _ _ M P _ _ Q E _ O23.out O3.out P23.out P3.out).mono ?_
    rintro e w4 ⟨rfl, b4⟩
    have X4 := Lib.hid (X3.out.kept b4)
    have Y4 := Lib.hid (Y3.out.kept b4)
    have O24 := Lib.hid (O23.out.below b4)
    have P24 := Lib.hid (P23.out.below b4)
    have O4 := Lib.hid (O3.out.below b4)
    have P4 := Lib.hid (P3.out.below b4)
    have B4 := Lib.hid (B3.out.trans (b4.mono B3.out.size))
    have x0 : w4.cell? ⟨w2.heap.size, 0, none⟩ = some (.int .i64 C) := X4.out.cell 0
    have x1 : w4.cell? ⟨w2.heap.size, 1, none⟩ = some (.int .i64 K) := X4.out.cell 1
    have x2 : w4.cell? ⟨w2.heap.size, 2, none⟩ = some (.slice A2 Q.length c2) := X4.out.cell 2
    have x3 : w4.cell? ⟨w2.heap.size, 3, none⟩ = some (.string M) := X4.out.cell 3
    have x4 : w4.cell? ⟨w2.heap.size, 4, none⟩ = some (.int .i64 P) := X4.out.cell 4
    have x5 : w4.cell? ⟨w2.heap.size, 5, none⟩ = some (.slice D2 E.length e2) := X4.out.cell 5
    have y0 : w4.cell? ⟨w3.heap.size, 0, none⟩ = some (.int .i64 C) := Y4.out.cell 0
    have y1 : w4.cell? ⟨w3.heap.size, 1, none⟩ = some (.int .i64 K) := Y4.out.cell 1
    have y2 : w4.cell? ⟨w3.heap.size, 2, none⟩ = some (.slice A3 Q.length c3) := Y4.out.cell 2
    have y3 : w4.cell? ⟨w3.heap.size, 3, none⟩ = some (.string M) := Y4.out.cell 3
    have y4 : w4.cell? ⟨w3.heap.size, 4, none⟩ = some (.int .i64 P) := Y4.out.cell 4
    have y5 : w4.cell? ⟨w3.heap.size, 5, none⟩ = some (.slice D3 E.length e3) := Y4.out.cell 5
    clear b4 X3 Y3 O23 P23 O3 P3 B3 I3
    go_wp2_with fail
    refine (samePacket_same C K _ _ M P _ _ Q E _ O24.out O4.out P24.out P4.out).mono ?_
    rintro e w5 ⟨rfl, b5⟩
    have B5 := Lib.hid (B4.out.trans (b5.mono B4.out.size))
    clear b5
    go_wp2_with fail
    go_ret
    exact ⟨rfl, B5.out⟩
  · obtain ⟨hok, hL⟩ := HB.out rfl
    have EL := Lib.hid hL
    have EO := Lib.hid hok
    clear HB hok hL
    go_wp2_with fail
    clear hV3 x0 x1 x2 x3 x4 x5 y0 y1 y2 y3 y4 y5
    refine (samePacket_same C K _ _ M P _ _ Q E _ O23.out O3.out P23.out P3.out).mono ?_
    rintro e w4 ⟨rfl, b4⟩
    have X4 := Lib.hid (X3.out.kept b4)
    have O24 := Lib.hid (O23.out.below b4)
    have P24 := Lib.hid (P23.out.below b4)
    have I4 := Lib.hid (I3.out.below b4)
    have B4 := Lib.hid (B3.out.trans (b4.mono B3.out.size))
    have x0 : w4.cell? ⟨w2.heap.size, 0, none⟩ = some (.int .i64 C) := X4.out.cell 0
    have x1 : w4.cell? ⟨w2.heap.size, 1, none⟩ = some (.int .i64 K) := X4.out.cell 1
    have x2 : w4.cell? ⟨w2.heap.size, 2, none⟩ = some (.slice A2 Q.length c2) := X4.out.cell 2
    have x3 : w4.cell? ⟨w2.heap.size, 3, none⟩ = some (.string M) := X4.out.cell 3
    have x4 : w4.cell? ⟨w2.heap.size, 4, none⟩ = some (.int .i64 P) := X4.out.cell 4
    have x5 : w4.cell? ⟨w2.heap.size, 5, none⟩ = some (.slice D2 E.length e2) := X4.out.cell 5
    clear b4 X3 Y3 O23 P23 O3 P3 B3 I3
    go_wp2_with fail
    refine (impl_PacketBytes_any C K _ M P Q _ E _ O24.out P24.out hM).mono ?_
    rintro e w5 ⟨v5, rfl, o5, b5⟩
    rw [EO.out]
    rw [EL.out] at o5
    obtain ⟨A5, c5, rfl, _, _, _⟩ := o5.form
    have O5 := Lib.hid o5.ints.zero
    have I5 := Lib.hid (I4.out.below b5)
    have B5 := Lib.hid (B4.out.trans (b5.mono B4.out.size))
    clear o5 b5 X4 O24 P24 I4 B4 x0 x1 x2 x3 x4 x5
    go_wp2_with fail
    refine (sameBytes_any _ _ zs zs _ O5.out I5.out).mono ?_
    rintro e w6 ⟨rfl, n6, rfl⟩
    rw [decide_eq_true rfl]
    go_wp2_with fail
    go_ret
    exact ⟨rfl, below_drewN B5.out n6⟩
set_option maxRecDepth 100000 in
theorem lifted (os : Os) (started : os.Started) (H : Type) (enc : TypeId × Value → H) :
    ReturnsInHanded {} Tryd.checked os 9 .any (fun w args => (Rows.fnPacketFromSpec.pre enc Tryd.prog Tryd.f9 Rows.fnPacketFromRow.domain false w args ∧ laidMetH Tryd.prog Rows.fnPacketFromRow.laid w) ∧ sizedMet enc Tryd.prog Tryd.f9 (OpenSpec.ofChange Rows.fnPacketFromSpec) false w args) (Rows.fnPacketFromSpec.post enc Tryd.prog Tryd.f9 false true false false) := by
  refine returnsInHanded_of_change_and (C := Tryd.checked) (X := fun w _ => laidMetH Tryd.prog Rows.fnPacketFromRow.laid w) (fun _ _ _ hh h => h.of_heap hh) Tryd.own started (by kernel_rfl) Tryd.func9
    (ChangeSpec.witness_shaped (enc := enc) (C := Tryd.checked) (os := os) (X := fun w _ => laidMetH Tryd.prog Rows.fnPacketFromRow.laid w) false (World.laidAll Tryd.prog os Rows.fnPacketFromRow.laid) #[.slice none 0 0] 8 (World.laidAll_os _ _ _)
      (World.shaped_of_ZipB (by kernel_rfl) (by kernel_rfl)) (by kernel_rfl) (by kernel_rfl) (by kernel_rfl)
      (by rw [MakeChecks.laidMetH_plain _ _ _ (by kernel_rfl)]; exact laidMet_laidAll _ (by kernel_rfl) (by kernel_rfl))) ?_
  intro W base args ds gs before hval0 hW hcnd _ _ _
  have hval : ∀ (j : Nat) t v, Tryd.f9.params[j]? = some t → args[j]? = some v → Value.okWide Tryd.prog W .any base t v := hval0
  have hW' := hW
  obtain ⟨p, q, hA0, hV, rfl, hfz, hnd⟩ := hW
  have hA : DataW.TrodAll enc Tryd.prog W 0 (fun _ => true) true Tryd.f9.params.toList args.toList ds p := hA0
  rw [Tryd.params9] at hA hval
  obtain ⟨v0, vs0, d0, ds0, p0, q0, hargs, rfl, rfl, h0, r0⟩ := trodAll_cons hA
  obtain ⟨rfl, rfl, rfl⟩ := trodAll_nil r0
  obtain rfl : args = #[v0] := by cases args; simp_all
  obtain ⟨rfl, rfl⟩ := trodVars_none hV
  obtain ⟨a0, len0, cap0, rfl⟩ := okWide_slice Tryd.underlying22 (hval 0 22 v0 rfl rfl)
  have k0 := h0
  have lt0 : ∀ x ∈ p0, x.block < W.heap.size := by obtain ⟨m, hm⟩ := k0; exact DataW.trod_lt m _ _ _ hm
  obtain ⟨z0, w0⟩ : ∃ zs, IsRow .u8 W a0 len0 cap0 zs := by
    obtain ⟨fuel, hf⟩ := h0
    rcases open_ints Tryd.underlying22 Tryd.underlying5 (by kernel_rfl) hf with ⟨hcs, _⟩ | ⟨x, l, c, zs, hcs, _, hl, hm, hz, _, hcell, hwz⟩
    · simp [Value.cells] at hcs
      obtain ⟨rfl, rfl, rfl⟩ := hcs
      exact ⟨[], .inl ⟨rfl, rfl, rfl, rfl⟩⟩
    · simp [Value.cells] at hcs
      obtain ⟨rfl, rfl, rfl⟩ := hcs
      exact ⟨zs, .inr ⟨_, rfl, hl, hm, by simpa using hz, hcell, hwz⟩⟩
  clear hA0 hval0
  refine (walk (.slice a0 len0 cap0) _ W ((Came.of_row w0).1)).mono fun e W' ⟨he, bel⟩ => ?_
  subst he
  exact ⟨_, rfl, _, _, _, [], _, [], hW', trodAll_mk1 (shut_bool Tryd.underlying4 _), (trodAll_cons_mk (Below.trod Tryd.laidOut (by kernel_rfl) (of_decide_eq_true (by kernel_rfl)) k0 bel lt0) trodAll_mk0), rfl, bel.frame _, fun h => by cases h⟩

theorem closed : joinedFacts Tryd.prog 9 Tryd.f9 Rows.fnPacketFromSpec Rows.fnPacketFromRow = true := by
  unfold joinedFacts
  repeat' (with_reducible refine band ?_ ?_)
  all_goals (with_reducible (first | exact Tryd.laidOut | exact kMaps | exact kStops | exact kKnobs | exact kHeard | exact kEnter | refine eqPlain ?_ | refine eqLift ?_ | refine eqMake ?_ | skip))
  all_goals (as_aux_lemma => kernel_rfl)

/-- The row -/
theorem row_holds : Rows.FnPacketFromSaid :=
  OpenClaim.holds_of_wide 9 Tryd.f9 rfl rfl rfl rfl rfl rfl rfl ⟨rfl, rfl, rfl, rfl, rfl⟩ rfl rfl rfl rfl rfl (by as_aux_lemma => kernel_rfl) Tryd.func9 closed
    (of_decide_eq_true (by as_aux_lemma => kernel_rfl)) (by unfold Func.isWrapper; first | (rw [if_pos (by decide +kernel)]; kernel_rfl) | (rw [if_neg (by decide +kernel)]; exact ⟨rfl, rfl⟩))
    (fun os started H enc _ => lifted os started H enc)

set_option maxRecDepth 100000 in
/-- THE STATEMENT -/
theorem proved : Rows.FnPacketFromCardSaid :=
  Claim7.holds_tied_plain_at .later [] [.data, .pinned] true (true, "71cb2da78bc50782ad828c61a4547b3a4c8bb6d1fee47442386dd17ce480b237") false row_holds (fun _ h => by cases h) (by as_aux_lemma => kernel_rfl) (fun _ h => by cases h) fnPacketFrom_row_tie rfl ⟨rfl, rfl⟩ (by as_aux_lemma => kernel_rfl) rfl
    (fun f fn hf hfn => by
      obtain rfl : f = 9 := Option.some.inj ((show Tryd.prog.funcNamed "loop.example/proxyframes/laws.FnPacketFrom" = some 9 by kernel_rfl).symm.trans hf) |>.symm
      obtain rfl : fn = Tryd.f9 := (Option.some.inj (Tryd.func9.symm.trans hfn)).symm
      exact ⟨by kernel_rfl, fun j t ht => by
        rw [Tryd.params9] at ht
        have hm : t ∈ [22] := by simpa using Array.mem_of_getElem? ht
        have hall : ([22].all fun u => !Tryd.prog.wantsStandIn u) = true := by kernel_rfl
        exact (show Tryd.prog.wantsStandIn t = false by simpa using List.all_eq_true.1 hall t hm)⟩)
    (by as_aux_lemma => kernel_rfl)
end Go.Proofs.YtolbkdcnmkmncaaDoor.fnPacketFrom

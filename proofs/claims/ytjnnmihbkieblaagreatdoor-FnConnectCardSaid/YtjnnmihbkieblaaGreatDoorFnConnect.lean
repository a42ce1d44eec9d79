/-
  A text has its address: true for every code. Conditions: none.
-/
import Derived.Test.YtjnnmihbkieblaaGreatDoorKitC
import Derived.Test.YtjnnmihbkieblaaGreatDoorConLaid
import Derived.Test.YtjnnmihbkieblaaGreatDoorSameAd
namespace Go.Proofs.YtjnnmihbkieblaaGreatDoor.fnConnect
open Go.ChangeShapes Go.WideShapes Go.ChangeAt Go.RowKit

set_option maxRecDepth 100000 in
set_option maxHeartbeats 4000000 in
theorem walk (v : Value) (bs : List Int) (w : World) (hv : Came .u8 w w.heap.size v bs) (ht : Tabs w) (he : Errs w) : Calls Tryz.prog 3 #[v] w fun e w' => e = .returned (.bool true) ∧ Below w.heap.size w w' := by
  have hv0 := Lib.hid hv
  have T0 := Lib.hid ht
  have E0 := Lib.hid he
  obtain ⟨A, c, rfl, hc, hm, _, _⟩ := hv
  clear ht he
  by_cases hl : 1048576 < bs.length
  · have hl' : (1048576 : Int) < (bs.length : Int) := by omega
    go_enter Tryz.func3, Tryz.ntmps3
    go_wp2_with fail
    go_ret
    exact ⟨rfl, Below.refl _ _⟩
  have hl' : (bs.length : Int) ≤ 1048576 := by omega
  clear hl
  go_enter Tryz.func3, Tryz.ntmps3
  go_wp2_with fail
  refine (DrawConnectText_any _ bs w hv0.out).mono ?_
  rintro e w1 ⟨k, q, qs, nm, p, rfl, o1, lq, hs, b1⟩
  obtain ⟨A1, c1, rfl, hc1, hm1, _⟩ := o1.form
  have hns : nm.size < 4294967281 := by omega
  obtain ⟨V1, hV1⟩ : ∃ V1, w1.alloc (.cells #[.int .i64 k, .slice A1 qs.length c1, .string nm, .int .i64 p] 25) = V1 := ⟨_, rfl⟩
  have K1 : Hid (Blk V1 w1.heap.size 25 #[.int .i64 k, .slice A1 qs.length c1, .string nm, .int .i64 p]) := Lib.hid (by rw [← hV1]; exact Blk.new _ _ _)
  have I1 : Hid (Ints V1 0 (.slice A1 qs.length c1) qs) := Lib.hid (by rw [← hV1]; exact (o1.alloc _).ints.zero)
  have B1 : Hid (Below w.heap.size w V1) := Lib.hid (by rw [← hV1]; exact b1.alloc b1.size _)
  have a0 : V1.cell? ⟨w1.heap.size, 0, none⟩ = some (.int .i64 k) := K1.out.cell 0
  have a1 : V1.cell? ⟨w1.heap.size, 1, none⟩ = some (.slice A1 qs.length c1) := K1.out.cell 1
  have a2 : V1.cell? ⟨w1.heap.size, 2, none⟩ = some (.string nm) := K1.out.cell 2
  have a3 : V1.cell? ⟨w1.heap.size, 3, none⟩ = some (.int .i64 p) := K1.out.cell 3
  clear o1 b1
  go_wp2_with fail
  clear hV1 a0 a1 a2 a3
  refine (impl_ConnectText_any k _ nm p qs _ I1.out hns (T0.out.below B1.out)).mono ?_
  rintro e w2 ⟨rfl, b2⟩
  have I2 := Lib.hid (I1.out.below b2)
  have K2 := Lib.hid (K1.out.kept b2)
  have B2 := Lib.hid (B1.out.trans (b2.mono B1.out.size))
  have a0 : w2.cell? ⟨w1.heap.size, 0, none⟩ = some (.int .i64 k) := K2.out.cell 0
  have a1 : w2.cell? ⟨w1.heap.size, 1, none⟩ = some (.slice A1 qs.length c1) := K2.out.cell 1
  have a2 : w2.cell? ⟨w1.heap.size, 2, none⟩ = some (.string nm) := K2.out.cell 2
  have a3 : w2.cell? ⟨w1.heap.size, 3, none⟩ = some (.int .i64 p) := K2.out.cell 3
  clear b2 K1 I1 B1
  go_wp2_with fail
  clear a0 a1 a2 a3
  refine (spec_ConnectText_any k _ nm p qs _ I2.out hns).mono ?_
  rintro e w3 ⟨rfl, b3⟩
  have I3 := Lib.hid (I2.out.below b3)
  have K3 := Lib.hid (K2.out.kept b3)
  have B3 := Lib.hid (B2.out.trans (b3.mono B2.out.size))
  clear b3 K2 I2 B2
  cases ha : adOk k qs nm p
  · rw [conX_not ha]
    clear ha
    go_wp2_with fail
    go_ret
    exact ⟨rfl, B3.out⟩
  rw [conX_ok ha]
  have hsz := conT_size (adT k qs nm p)
  have hz0 := adT_size ha
  have IC := con_self0 ha
  have IX := con_self ha ⟨#[120, 121, 122]⟩
  obtain ⟨C, hC⟩ : ∃ C, conT (adT k qs nm p) = C := ⟨_, rfl⟩
  rw [hC] at hsz ⊢
  have HC := Lib.hid hC
  obtain ⟨z, hz⟩ : ∃ z, C.size = z := ⟨_, rfl⟩
  rw [hz] at hsz
  have hzs : z ≤ 300 := by omega
  have hz1 : 0 < z := by omega
  have hne : C.toList.isEmpty = false := filled_of (by omega)
  rw [hC] at IC IX
  have HIC := Lib.hid IC
  have HIX := Lib.hid IX
  have n0 : (9223372036854775807 < z + 3) = False := eq_false (by omega)
  have hs1 : C.size < 4294967281 := by omega
  have hs2 : (C ++ (⟨#[120, 121, 122]⟩ : ByteArray)).size < 4294967281 := by
    rw [ByteArray.size_append, show (⟨#[120, 121, 122]⟩ : ByteArray).size = 3 from rfl]
    omega
  have HS2 := Lib.hid hs2
  clear IC IX hC hsz hz0 ha hs2
  go_wp2_with fail
  refine (impl_Con_yes C C k qs nm p _ HIC.out HC.out hs1 (T0.out.below B3.out) (E0.out.below B3.out)).mono ?_
  rintro e w4 ⟨q4, rfl, o4, b4⟩
  obtain ⟨A4, c4, rfl, _, _, _⟩ := o4.form
  obtain ⟨V4, hV4⟩ : ∃ V4, w4.alloc (.cells #[.int .i64 k, .slice A4 qs.length c4, .string nm, .int .i64 p] 25) = V4 := ⟨_, rfl⟩
  have X4 : Hid (Blk V4 w4.heap.size 25 #[.int .i64 k, .slice A4 qs.length c4, .string nm, .int .i64 p]) := Lib.hid (by rw [← hV4]; exact Blk.new _ _ _)
  have J4 : Hid (Ints V4 0 (.slice A4 qs.length c4) qs) := Lib.hid (by rw [← hV4]; exact (o4.alloc _).ints.zero)
  have I4 : Hid (Ints V4 0 (.slice A1 qs.length c1) qs) := Lib.hid (by rw [← hV4]; exact (I3.out.below b4).alloc _)
  have K4 : Hid (Blk V4 w1.heap.size 25 #[.int .i64 k, .slice A1 qs.length c1, .string nm, .int .i64 p]) := Lib.hid (by rw [← hV4]; exact (K3.out.kept b4).alloc _)
  have B4 : Hid (Below w.heap.size w V4) := Lib.hid (by rw [← hV4]; exact (B3.out.trans (b4.mono B3.out.size)).alloc (B3.out.trans (b4.mono B3.out.size)).size _)
  clear o4 b4 K3 I3 B3
  go_wp2_with fail
  clear hV4
  refine (impl_Con_yes (C ++ (⟨#[120, 121, 122]⟩ : ByteArray)) C k qs nm p _ HIX.out HC.out HS2.out (T0.out.below B4.out) (E0.out.below B4.out)).mono ?_
  rintro e w5 ⟨q5, rfl, o5, b5⟩
  obtain ⟨A5, c5, rfl, _, _, _⟩ := o5.form
  obtain ⟨V5, hV5⟩ : ∃ V5, w5.alloc (.cells #[.int .i64 k, .slice A5 qs.length c5, .string nm, .int .i64 p] 25) = V5 := ⟨_, rfl⟩
  have Y5 : Hid (Blk V5 w5.heap.size 25 #[.int .i64 k, .slice A5 qs.length c5, .string nm, .int .i64 p]) := Lib.hid (by rw [← hV5]; exact Blk.new _ _ _)
  have L5 : Hid (Ints V5 0 (.slice A5 qs.length c5) qs) := Lib.hid (by rw [← hV5]; exact (o5.alloc _).ints.zero)
  have X5 : Hid (Blk V5 w4.heap.size 25 #[.int .i64 k, .slice A4 qs.length c4, .string nm, .int .i64 p]) := Lib.hid (by rw [← hV5]; exact (X4.out.kept b5).alloc _)
  have J5 : Hid (Ints V5 0 (.slice A4 qs.length c4) qs) := Lib.hid (by rw [← hV5]; exact (J4.out.below b5).alloc _)
  have I5 : Hid (Ints V5 0 (.slice A1 qs.length c1) qs) := Lib.hid (by rw [← hV5]; exact (I4.out.below b5).alloc _)
  have K5 : Hid (Blk V5 w1.heap.size 25 #[.int .i64 k, .slice A1 qs.length c1, .string nm, .int .i64 p]) := Lib.hid (by rw [← hV5]; exact (K4.out.kept b5).alloc _)
  have B5 : Hid (Below w.heap.size w V5) := Lib.hid (by rw [← hV5]; exact (B4.out.trans (b5.mono B4.out.size)).alloc (B4.out.trans (b5.mono B4.out.size)).size _)
  have a0 : V5.cell? ⟨w1.heap.size, 0, none⟩ = some (.int .i64 k) := K5.out.cell 0
  have a1 : V5.cell? ⟨w1.heap.size, 1, none⟩ = some (.slice A1 qs.length c1) := K5.out.cell 1
  have a2 : V5.cell? ⟨w1.heap.size, 2, none⟩ = some (.string nm) := K5.out.cell 2
  have a3 : V5.cell? ⟨w1.heap.size, 3, none⟩ = some (.int .i64 p) := K5.out.cell 3
  have x0 : V5.cell? ⟨w4.heap.size, 0, none⟩ = some (.int .i64 k) := X5.out.cell 0
  have x1 : V5.cell? ⟨w4.heap.size, 1, none⟩ = some (.slice A4 qs.length c4) := X5.out.cell 1
  have x2 : V5.cell? ⟨w4.heap.size, 2, none⟩ = some (.string nm) := X5.out.cell 2
  have x3 : V5.cell? ⟨w4.heap.size, 3, none⟩ = some (.int .i64 p) := X5.out.cell 3
  have y0 : V5.cell? ⟨w5.heap.size, 0, none⟩ = some (.int .i64 k) := Y5.out.cell 0
  have y1 : V5.cell? ⟨w5.heap.size, 1, none⟩ = some (.slice A5 qs.length c5) := Y5.out.cell 1
  have y2 : V5.cell? ⟨w5.heap.size, 2, none⟩ = some (.string nm) := Y5.out.cell 2
  have y3 : V5.cell? ⟨w5.heap.size, 3, none⟩ = some (.int .i64 p) := Y5.out.cell 3
  clear o5 b5 K4 X4 J4 I4 B4
  go_wp2_with fail
  clear hV5 a0 a1 a2 a3 x0 x1 x2 x3 y0 y1 y2 y3
  refine (sameAddress_same k _ _ nm p qs _ J5.out I5.out).mono ?_
  rintro e w6 ⟨rfl, b6⟩
  have Y6 := Lib.hid (Y5.out.kept b6)
  have K6 := Lib.hid (K5.out.kept b6)
  have L6 := Lib.hid (L5.out.below b6)
  have I6 := Lib.hid (I5.out.below b6)
  have B6 := Lib.hid (B5.out.trans (b6.mono B5.out.size))
  have a0 : w6.cell? ⟨w1.heap.size, 0, none⟩ = some (.int .i64 k) := K6.out.cell 0
  have a1 : w6.cell? ⟨w1.heap.size, 1, none⟩ = some (.slice A1 qs.length c1) := K6.out.cell 1
  have a2 : w6.cell? ⟨w1.heap.size, 2, none⟩ = some (.string nm) := K6.out.cell 2
  have a3 : w6.cell? ⟨w1.heap.size, 3, none⟩ = some (.int .i64 p) := K6.out.cell 3
  have y0 : w6.cell? ⟨w5.heap.size, 0, none⟩ = some (.int .i64 k) := Y6.out.cell 0
  have y1 : w6.cell? ⟨w5.heap.size, 1, none⟩ = some (.slice A5 qs.length c5) := Y6.out.cell 1
  have y2 : w6.cell? ⟨w5.heap.size, 2, none⟩ = some (.string nm) := Y6.out.cell 2
  have y3 : w6.cell? ⟨w5.heap.size, 3, none⟩ = some (.int .i64 p) := Y6.out.cell 3
  clear b6 Y5 K5 L5 I5 X5 J5 B5
  go_wp2_with fail
  clear a0 a1 a2 a3 y0 y1 y2 y3
  refine (sameAddress_same k _ _ nm p qs _ L6.out I6.out).mono ?_
  rintro e w7 ⟨rfl, b7⟩
  have B7 := Lib.hid (B6.out.trans (b7.mono B6.out.size))
  clear b7
  go_wp2_with fail
  go_ret
  exact ⟨by simp, B7.out⟩

set_option maxRecDepth 100000 in
theorem lifted (os : Os) (started : os.Started) (H : Type) (enc : TypeId × Value → H) :
    ReturnsInHanded {} Tryz.checked os 3 .any (fun w args => (Rows.fnConnectSpec.pre enc Tryz.prog Tryz.f3 Rows.fnConnectRow.domain false w args ∧ laidMetH Tryz.prog Rows.fnConnectRow.laid w) ∧ sizedMet enc Tryz.prog Tryz.f3 (OpenSpec.ofChange Rows.fnConnectSpec) false w args) (Rows.fnConnectSpec.post enc Tryz.prog Tryz.f3 false true false false) := by
  refine returnsInHanded_of_change_and (C := Tryz.checked) (X := fun w _ => laidMetH Tryz.prog Rows.fnConnectRow.laid w) (fun _ _ _ hh h => h.of_heap hh) Tryz.own started (by kernel_rfl) Tryz.func3
    (ChangeSpec.witness_shaped (enc := enc) (C := Tryz.checked) (os := os) (X := fun w _ => laidMetH Tryz.prog Rows.fnConnectRow.laid w) false (World.laidAll Tryz.prog os Rows.fnConnectRow.laid) #[.slice none 0 0] 8 (World.laidAll_os _ _ _)
      (World.shaped_of_ZipB (by kernel_rfl) (by kernel_rfl)) (by kernel_rfl) (by kernel_rfl) (by kernel_rfl)
      (by rw [MakeChecks.laidMetH_plain _ _ _ (by kernel_rfl)]; exact laidMet_laidAll _ (by kernel_rfl) (by kernel_rfl))) ?_
  intro W base args ds gs before hval0 hW hcnd _ hL _
  rw [MakeChecks.laidMetH_plain _ _ _ (by kernel_rfl)] at hL
  have hT : Tabs W := Tabs.of_laid _ rfl hL
  have hR : Errs W := Errs.of_laid _ rfl hL
  clear hL
  have hval : ∀ (j : Nat) t v, Tryz.f3.params[j]? = some t → args[j]? = some v → Value.okWide Tryz.prog W .any base t v := hval0
  have hW' := hW
  obtain ⟨p, q, hA0, hV, rfl, hfz, hnd⟩ := hW
  have hA : DataW.TrodAll enc Tryz.prog W 0 (fun _ => true) true Tryz.f3.params.toList args.toList ds p := hA0
  rw [Tryz.params3] at hA hval
  obtain ⟨v0, vs0, d0, ds0, p0, q0, hargs, rfl, rfl, h0, r0⟩ := trodAll_cons hA
  obtain ⟨rfl, rfl, rfl⟩ := trodAll_nil r0
  obtain rfl : args = #[v0] := by cases args; simp_all
  obtain ⟨rfl, rfl⟩ := trodVars_none hV
  obtain ⟨a0, len0, cap0, rfl⟩ := okWide_slice Tryz.underlying22 (hval 0 22 v0 rfl rfl)
  have k0 := h0
  have lt0 : ∀ x ∈ p0, x.block < W.heap.size := by obtain ⟨m, hm⟩ := k0; exact DataW.trod_lt m _ _ _ hm
  obtain ⟨z0, w0⟩ : ∃ zs, IsRow .u8 W a0 len0 cap0 zs := by
    obtain ⟨fuel, hf⟩ := h0
    rcases open_ints Tryz.underlying22 Tryz.underlying5 (by kernel_rfl) hf with ⟨hcs, _⟩ | ⟨x, l, c, zs, hcs, _, hl, hm, hz, _, hcell, hwz⟩
    · simp [Value.cells] at hcs
      obtain ⟨rfl, rfl, rfl⟩ := hcs
      exact ⟨[], .inl ⟨rfl, rfl, rfl, rfl⟩⟩
    · simp [Value.cells] at hcs
      obtain ⟨rfl, rfl, rfl⟩ := hcs
      exact ⟨zs, .inr ⟨_, rfl, hl, hm, by simpa using hz, hcell, hwz⟩⟩
  clear hA0 hval0
  refine (walk (.slice a0 len0 cap0) _ W ((Came.of_row w0).1) hT hR).mono fun e W' ⟨he, bel⟩ => ?_
  subst he
  exact ⟨_, rfl, _, _, _, [], _, [], hW', trodAll_mk1 (shut_bool Tryz.underlying4 _), (trodAll_cons_mk (Below.trod Tryz.laidOut (by kernel_rfl) (of_decide_eq_true (by kernel_rfl)) k0 bel lt0) trodAll_mk0), rfl, bel.frame _, fun h => by cases h⟩

theorem closed : joinedFacts Tryz.prog 3 Tryz.f3 Rows.fnConnectSpec Rows.fnConnectRow = true := by
  unfold joinedFacts
  repeat' (with_reducible refine band ?_ ?_)
  all_goals (with_reducible (first | exact Tryz.laidOut | exact kMaps | exact kStops | exact kKnobs | exact kHeard | exact kEnter | refine eqPlain ?_ | refine eqLift ?_ | refine eqMake ?_ | skip))
  all_goals (as_aux_lemma => kernel_rfl)

/-- The row -/
theorem row_holds : Rows.FnConnectSaid :=
  OpenClaim.holds_of_wide 3 Tryz.f3 rfl rfl rfl rfl rfl rfl rfl ⟨rfl, rfl, rfl, rfl, rfl⟩ rfl rfl rfl rfl rfl (by as_aux_lemma => kernel_rfl) Tryz.func3 closed
    (of_decide_eq_true (by as_aux_lemma => kernel_rfl)) (by unfold Func.isWrapper; first | (rw [if_pos (by decide +kernel)]; kernel_rfl) | (rw [if_neg (by decide +kernel)]; exact ⟨rfl, rfl⟩))
    (fun os started H enc _ => lifted os started H enc)

set_option maxRecDepth 100000 in
/-- THE STATEMENT -/
theorem proved : Rows.FnConnectCardSaid :=
  Claim7.holds_tied_plain_at .later [] [.data, .data, .data, .data, .sentinel, .sentinel, .pinned] true (true, "12f77fffc38f7406a318995ee6b2027e38e9c71ed0cba08689d630be31bca1fd") true row_holds (fun _ h => by cases h) (by as_aux_lemma => kernel_rfl) (fun _ h => by cases h) fnConnect_row_tie rfl ⟨rfl, rfl⟩ (by as_aux_lemma => kernel_rfl) rfl
    (fun f fn hf hfn => by
      obtain rfl : f = 3 := Option.some.inj ((show Tryz.prog.funcNamed "loop.example/proxyframes/laws.FnConnect" = some 3 by kernel_rfl).symm.trans hf) |>.symm
      obtain rfl : fn = Tryz.f3 := (Option.some.inj (Tryz.func3.symm.trans hfn)).symm
      exact ⟨by kernel_rfl, fun j t ht => by
        rw [Tryz.params3] at ht
        have hm : t ∈ [22] := by simpa using Array.mem_of_getElem? ht
        have hall : ([22].all fun u => !Tryz.prog.wantsStandIn u) = true := by kernel_rfl
        exact (show Tryz.prog.wantsStandIn t = false by simpa using List.all_eq_true.1 hall t hm)⟩)
    (by as_aux_lemma => kernel_rfl)
end Go.Proofs.YtjnnmihbkieblaaGreatDoor.fnConnect

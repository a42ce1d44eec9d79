/-
  A text that asks for a tunnel begins with its address and ends with an empty line: true for every code. Conditions: none.
-/
import Derived.Test.YtdmkacbjdojkpaaDoorKitC
import Derived.Test.YtdmkacbjdojkpaaDoorLaid
import Derived.Test.YtdmkacbjdojkpaaDoorCtx
namespace Go.Proofs.YtdmkacbjdojkpaaDoor.fnConnectBegin
open Go.ChangeShapes Go.WideShapes Go.ChangeAt Go.RowKit

theorem ext_front (a b : ByteArray) : (a ++ b).extract 0 a.size = a := by
  ext1
  simp [ByteArray.extract_append]
theorem ext_back (a b : ByteArray) {n m : Nat} (h : n = a.size) (hm : m = a.size + b.size) : (a ++ b).extract n m = b := by
  subst h hm
  ext1
  simp [ByteArray.extract_append]
def frontB (t : ByteArray) : ByteArray := conB ++ t ++ ⟨#[32]⟩
def restB (t : ByteArray) : ByteArray := ⟨#[72, 84, 84, 80, 47, 49, 46, 49, 13, 10, 72, 111, 115, 116, 58, 32]⟩ ++ t ++ endB
theorem conT_front (t : ByteArray) : conT t = frontB t ++ restB t := by
  have : midB = ⟨#[32]⟩ ++ ⟨#[72, 84, 84, 80, 47, 49, 46, 49, 13, 10, 72, 111, 115, 116, 58, 32]⟩ := by kernel_rfl
  unfold conT frontB restB
  rw [this]
  simp only [ByteArray.append_assoc]
theorem frontB_size (t : ByteArray) : (frontB t).size = 8 + t.size + 1 := by
  unfold frontB
  simp only [ByteArray.size_append, show conB.size = 8 from rfl]
  rfl
theorem conT_begins (t : ByteArray) {n : Nat} (h : n = 8 + t.size + 1) : (conT t).extract 0 n = frontB t := by
  rw [h, ← frontB_size, conT_front]
  exact ext_front _ _
theorem conT_ends (t : ByteArray) {n m : Nat} (h : n = 2 * t.size + 25) (hm : m = 2 * t.size + 29) : (conT t).extract n m = endB := by
  unfold conT
  refine ext_back _ _ ?_ ?_ <;> simp only [ByteArray.size_append, show conB.size = 8 from rfl, show midB.size = 17 from rfl, show endB.size = 4 from rfl] <;> omega

set_option maxRecDepth 100000 in
set_option maxHeartbeats 4000000 in
theorem walk (v : Value) (bs : List Int) (w : World) (hv : Came .u8 w w.heap.size v bs) (ht : Tabs w) : Calls Tryd.prog 8 #[v] w fun e w' => e = .returned (.bool true) ∧ Below w.heap.size w w' := by
  have hv0 := Lib.hid hv
  have T0 := Lib.hid ht
  obtain ⟨A, c, rfl, hc, hm, _, _⟩ := hv
  clear ht
  by_cases hl : 1048576 < bs.length
  · have hl' : (1048576 : Int) < (bs.length : Int) := by omega
    go_enter Tryd.func8, Tryd.ntmps8
    go_wp2_with fail
    go_ret
    exact ⟨rfl, Below.refl _ _⟩
  have hl' : (bs.length : Int) ≤ 1048576 := by omega
  clear hl
  go_enter Tryd.func8, Tryd.ntmps8
  go_wp2_with fail
  refine (DrawConnectText_any _ bs w hv0.out).mono ?_
  rintro e w1 ⟨k, q, qs, nm, p, rfl, o1, lq, hs, b1⟩
  obtain ⟨A1, c1, rfl, hc1, hm1, _⟩ := o1.form
  have hns : nm.size < 4294967281 := by omega
  obtain ⟨V1, hV1⟩ : ∃ V1, w1.alloc (.cells #[.int .i64 k, .slice A1 qs.length c1, .string nm, .int .i64 p] 25) = V1 := ⟨_, rfl⟩
  have K1 : Hid (Blk V1 w1.heap.size 25 #[.int .i64 k, .slice A1 qs.length c1, .string nm, .int .i64 p]) := Lib.hid (by rw [← hV1]; exact Blk.new _ _ _)
  have I1 : Hid (Ints V1 0 (.slice A1 qs.length c1) qs) := Lib.hid (by rw [← hV1]; exact (o1.alloc _).ints.zero)
  have B1 : Hid (Below w.heap.size w V1) := Lib.hid (by rw [← hV1]; exact b1.alloc b1.size _)
  have T1 : Hid (Tabs V1) := Lib.hid (T0.out.below B1.out)
  have a0 : V1.cell? ⟨w1.heap.size, 0, none⟩ = some (.int .i64 k) := K1.out.cell 0
  have a1 : V1.cell? ⟨w1.heap.size, 1, none⟩ = some (.slice A1 qs.length c1) := K1.out.cell 1
  have a2 : V1.cell? ⟨w1.heap.size, 2, none⟩ = some (.string nm) := K1.out.cell 2
  have a3 : V1.cell? ⟨w1.heap.size, 3, none⟩ = some (.int .i64 p) := K1.out.cell 3
  clear o1 b1
  go_wp2_with fail
  clear hV1 a0 a1 a2 a3
  refine (impl_ConnectText_any k _ nm p qs _ I1.out hns T1.out).mono ?_
  rintro e w2 ⟨rfl, b2⟩
  have I2 := Lib.hid (I1.out.below b2)
  have T2 := Lib.hid (T1.out.below b2)
  have K2 := Lib.hid (K1.out.kept b2)
  have B2 := Lib.hid (B1.out.trans (b2.mono B1.out.size))
  have a0 : w2.cell? ⟨w1.heap.size, 0, none⟩ = some (.int .i64 k) := K2.out.cell 0
  have a1 : w2.cell? ⟨w1.heap.size, 1, none⟩ = some (.slice A1 qs.length c1) := K2.out.cell 1
  have a2 : w2.cell? ⟨w1.heap.size, 2, none⟩ = some (.string nm) := K2.out.cell 2
  have a3 : w2.cell? ⟨w1.heap.size, 3, none⟩ = some (.int .i64 p) := K2.out.cell 3
  clear b2 K1 I1 B1
  go_wp2_with fail
  clear a0 a1 a2 a3
  refine (spec_ConnectText_any k _ nm p qs _ I2.out hns).mono ?_
  rintro e w3 ⟨rfl, b3⟩
  have I3 := Lib.hid (I2.out.below b3)
  have T3 := Lib.hid (T2.out.below b3)
  have K3 := Lib.hid (K2.out.kept b3)
  have B3 := Lib.hid (B2.out.trans (b3.mono B2.out.size))
  have a0 : w3.cell? ⟨w1.heap.size, 0, none⟩ = some (.int .i64 k) := K3.out.cell 0
  have a1 : w3.cell? ⟨w1.heap.size, 1, none⟩ = some (.slice A1 qs.length c1) := K3.out.cell 1
  have a2 : w3.cell? ⟨w1.heap.size, 2, none⟩ = some (.string nm) := K3.out.cell 2
  have a3 : w3.cell? ⟨w1.heap.size, 3, none⟩ = some (.int .i64 p) := K3.out.cell 3
  clear b3 K2 I2 B2
  cases ha : adOk k qs nm p
  · rw [conX_not ha]
    clear ha
    go_wp2_with fail
    go_ret
    exact ⟨rfl, B3.out⟩
  have hz0 := adT_size ha
  have EX := Lib.hid (adX_ok ha)
  rw [conX_ok ha]
  have hsz := conT_size (adT k qs nm p)
  obtain ⟨T, hT⟩ : ∃ T, adT k qs nm p = T := ⟨_, rfl⟩
  have EX2 : Hid (adX k qs nm p = T) := Lib.hid (by rw [← hT]; exact EX.out)
  rw [hT] at hz0 hsz ⊢
  obtain ⟨C, hC⟩ : ∃ C, conT T = C := ⟨_, rfl⟩
  obtain ⟨z, hz⟩ : ∃ z, T.size = z := ⟨_, rfl⟩
  have eb := conT_begins T (n := 8 + z + 1) (by omega)
  have ee := conT_ends T (n := 2 * z + 25) (m := 2 * z + 29) (by omega) (by omega)
  rw [hC] at hsz eb ee ⊢
  rw [hz] at hz0 hsz
  have hne : C.toList.isEmpty = false := filled_of (by omega)
  have eb : C.extract 0 (8 + z + 1) = (⟨#[67, 79, 78, 78, 69, 67, 84, 32]⟩ : ByteArray) ++ T ++ ⟨#[32]⟩ := eb
  have he : endB.toList = [13, 10, 13, 10] := by kernel_rfl
  have n0 : (9223372036854775807 < 8 + z) = False := eq_false (by omega)
  have n1 : (9223372036854775807 < 8 + z + 1) = False := eq_false (by omega)
  clear hT hC EX ha
  go_wp2_with fail
  clear a0 a1 a2 a3
  refine (impl_AddressText_any k _ nm p qs _ I3.out hns T3.out).mono ?_
  rintro e w4 ⟨rfl, b4⟩
  rw [EX2.out]
  have B4 := Lib.hid (B3.out.trans (b4.mono B3.out.size))
  clear b4
  have i1 : ((C.size : Int) - 4).toNat = 2 * z + 25 := by omega
  have i2 : ((8 + z + 1 : Nat) : Int) ≤ (C.size : Int) := by omega
  have i3 : ¬ ((C.size : Int) - 4 < 0) := by omega
  go_wp2_with fail
  go_ret
  exact ⟨by simp [he], B4.out⟩

set_option maxRecDepth 100000 in
theorem lifted (os : Os) (started : os.Started) (H : Type) (enc : TypeId × Value → H) :
    ReturnsInHanded {} Tryd.checked os 8 .any (fun w args => (Rows.fnConnectBeginSpec.pre enc Tryd.prog Tryd.f8 Rows.fnConnectBeginRow.domain false w args ∧ laidMetH Tryd.prog Rows.fnConnectBeginRow.laid w) ∧ sizedMet enc Tryd.prog Tryd.f8 (OpenSpec.ofChange Rows.fnConnectBeginSpec) false w args) (Rows.fnConnectBeginSpec.post enc Tryd.prog Tryd.f8 false true false false) := by
  refine returnsInHanded_of_change_and (C := Tryd.checked) (X := fun w _ => laidMetH Tryd.prog Rows.fnConnectBeginRow.laid w) (fun _ _ _ hh h => h.of_heap hh) Tryd.own started (by kernel_rfl) Tryd.func8
    (ChangeSpec.witness_shaped (enc := enc) (C := Tryd.checked) (os := os) (X := fun w _ => laidMetH Tryd.prog Rows.fnConnectBeginRow.laid w) false (World.laidAll Tryd.prog os Rows.fnConnectBeginRow.laid) #[.slice none 0 0] 8 (World.laidAll_os _ _ _)
      (World.shaped_of_ZipB (by kernel_rfl) (by kernel_rfl)) (by kernel_rfl) (by kernel_rfl) (by kernel_rfl)
      (by rw [MakeChecks.laidMetH_plain _ _ _ (by kernel_rfl)]; exact laidMet_laidAll _ (by kernel_rfl) (by kernel_rfl))) ?_
  intro W base args ds gs before hval0 hW hcnd _ hL _
  rw [MakeChecks.laidMetH_plain _ _ _ (by kernel_rfl)] at hL
  have hT : Tabs W := Tabs.of_laid _ rfl hL
  clear hL
  have hval : ∀ (j : Nat) t v, Tryd.f8.params[j]? = some t → args[j]? = some v → Value.okWide Tryd.prog W .any base t v := hval0
  have hW' := hW
  obtain ⟨p, q, hA0, hV, rfl, hfz, hnd⟩ := hW
  have hA : DataW.TrodAll enc Tryd.prog W 0 (fun _ => true) true Tryd.f8.params.toList args.toList ds p := hA0
  rw [Tryd.params8] at hA hval
  obtain ⟨v0, vs0, d0, ds0, p0, q0, hargs, rfl, rfl, h0, r0⟩ := trodAll_cons hA
  obtain ⟨rfl, rfl, rfl⟩ := trodAll_nil r0
  obtain rfl : args = #[v0] := by cases args; simp_all
  obtain ⟨rfl, rfl⟩ := trodVars_none hV
  obtain ⟨a0, len0, cap0, rfl⟩ := okWide_slice Tryd.underlying22 (hval 0 22 v0 rfl rfl)
  have k0 := h0
  have lt0 : ∀ x ∈ p0, x.block < W.heap.size := by obtain ⟨m, hm⟩ := k0; exact DataW.trod_lt m _ _ _ hm
  obtain ⟨z0, w0⟩ : ∃ zs, IsRow .u8 W a0 len0 cap0 zs := by
    obtain ⟨fuel, hf⟩ := h0
    rcases open_ints Tryd.underlying22 Tryd.underlying5 (by kernel_rfl) hf with ⟨hcs, _⟩ | ⟨x, l, c, zs, hcs, _, hl, hm, hz, _, hcell, hwz⟩
    · simp [Value.cells] at hcs
      obtain ⟨rfl, rfl, rfl⟩ := hcs
      exact ⟨[], .inl ⟨rfl, rfl, rfl, rfl⟩⟩
    · simp [Value.cells] at hcs
      obtain ⟨rfl, rfl, rfl⟩ := hcs
      exact ⟨zs, .inr ⟨_, rfl, hl, hm, by simpa using hz, hcell, hwz⟩⟩
  clear hA0 hval0
  refine (walk (.slice a0 len0 cap0) _ W ((Came.of_row w0).1) hT).mono fun e W' ⟨he, bel⟩ => ?_
  subst he
  exact ⟨_, rfl, _, _, _, [], _, [], hW', trodAll_mk1 (shut_bool Tryd.underlying4 _), (trodAll_cons_mk (Below.trod Tryd.laidOut (by kernel_rfl) (of_decide_eq_true (by kernel_rfl)) k0 bel lt0) trodAll_mk0), rfl, bel.frame _, fun h => by cases h⟩

theorem closed : joinedFacts Tryd.prog 8 Tryd.f8 Rows.fnConnectBeginSpec Rows.fnConnectBeginRow = true := by
  unfold joinedFacts
  repeat' (with_reducible refine band ?_ ?_)
  all_goals (with_reducible (first | exact Tryd.laidOut | exact kMaps | exact kStops | exact kKnobs | exact kHeard | exact kEnter | refine eqPlain ?_ | refine eqLift ?_ | refine eqMake ?_ | skip))
  all_goals (as_aux_lemma => kernel_rfl)

/-- The row -/
theorem row_holds : Rows.FnConnectBeginSaid :=
  OpenClaim.holds_of_wide 8 Tryd.f8 rfl rfl rfl rfl rfl rfl rfl ⟨rfl, rfl, rfl, rfl, rfl⟩ rfl rfl rfl rfl rfl (by as_aux_lemma => kernel_rfl) Tryd.func8 closed
    (of_decide_eq_true (by as_aux_lemma => kernel_rfl)) (by unfold Func.isWrapper; first | (rw [if_pos (by decide +kernel)]; kernel_rfl) | (rw [if_neg (by decide +kernel)]; exact ⟨rfl, rfl⟩))
    (fun os started H enc _ => lifted os started H enc)

set_option maxRecDepth 100000 in
/-- THE STATEMENT -/
theorem proved : Rows.FnConnectBeginCardSaid :=
  Claim7.holds_tied_plain_at .later [] [.data, .data, .data, .data, .pinned] true (true, "be973a5d57cf08116a7e6a47837bfd3f23ecac6c98cd868bd1c5ddfbe69aa512") false row_holds (fun _ h => by cases h) (by as_aux_lemma => kernel_rfl) (fun _ h => by cases h) fnConnectBegin_row_tie rfl ⟨rfl, rfl⟩ (by as_aux_lemma => kernel_rfl) rfl
    (fun f fn hf hfn => by
      obtain rfl : f = 8 := Option.some.inj ((show Tryd.prog.funcNamed "loop.example/proxyframes/laws.FnConnectBegin" = some 8 by kernel_rfl).symm.trans hf) |>.symm
      obtain rfl : fn = Tryd.f8 := (Option.some.inj (Tryd.func8.symm.trans hfn)).symm
      exact ⟨by kernel_rfl, fun j t ht => by
        rw [Tryd.params8] at ht
        have hm : t ∈ [22] := by simpa using Array.mem_of_getElem? ht
        have hall : ([22].all fun u => !Tryd.prog.wantsStandIn u) = true := by kernel_rfl
        exact (show Tryd.prog.wantsStandIn t = false by simpa using List.all_eq_true.1 hall t hm)⟩)
    (by as_aux_lemma => kernel_rfl)
end Go.Proofs.YtdmkacbjdojkpaaDoor.fnConnectBegin

/-
  ConnectText of the program returns what the reference's returns, for all arguments, and its argument reads as it did. Conditions: none.
-/
import Derived.Test.YtdmkacbjdojkpaaDoorKitC
import Derived.Test.YtdmkacbjdojkpaaDoorLaid
import Derived.Test.YtdmkacbjdojkpaaDoorCtx
import Derived.Test.YtdmkacbjdojkpaaDoorAdLaws
import Derived.Test.YtdmkacbjdojkpaaDoorAdArg
import Derived.Deep.RegionHeld3
namespace Go.Proofs.YtdmkacbjdojkpaaDoor.fnExactConnectText
open Go.ChangeShapes Go.WideShapes Go.ChangeAt Go.RowKit

set_option maxRecDepth 100000 in
set_option maxHeartbeats 16000000 in
theorem walk (k : Int) (q : Value) (nm : ByteArray) (p : Int) (qs : List Int) (w : World) (hq : Came .i64 w w.heap.size q qs) (hn : nm.size ≤ maxLen) (ht : Tabs w) :
    Calls Tryd.prog 10 #[.agg #[.int .i64 k, q, .string nm, .int .i64 p]] w fun e w' => e = .returned (.bool true) ∧ Below w.heap.size w w' := by
  have HQ := Lib.hid hq
  have HN := Lib.hid hn
  have HT := Lib.hid ht
  obtain ⟨A, c, rfl, hc, hm, _, _⟩ := hq
  have K0 := Lib.hid (Blk.new w 47 #[.int .i64 k, .slice A qs.length c, .string nm, .int .i64 p])
  have B0 := Lib.hid ((Below.refl w.heap.size w).alloc (Nat.le_refl _) (.cells #[.int .i64 k, .slice A qs.length c, .string nm, .int .i64 p] 47))
  clear hn ht
  by_cases hl : (1048576 : Int) < (qs.length : Int) + nm.size
  · go_enter Tryd.func10, Tryd.ntmps10
    go_wp2_with fail
    refine (szAddress_not k _ nm p qs w.heap.size 1048576 _ (HQ.out.below B0.out) B0.out.size hl (by omega) (by omega) HN.out).mono ?_
    rintro e w1 ⟨rfl, b1⟩
    have B1 := Lib.hid (B0.out.trans (b1.mono B0.out.size))
    clear b1
    go_wp2_with fail
    go_ret
    exact ⟨rfl, B1.out⟩
  have hql : qs.length ≤ 1048576 := by omega
  have hns : nm.size < 4294967281 := by omega
  obtain ⟨G, hG⟩ : ∃ G, conX k qs nm p = G := ⟨_, rfl⟩
  have impl_ := fun u W h h' => impl_ConnectText_any k u nm p qs W h hns h'
  have spec_ := fun u W h => spec_ConnectText_any k u nm p qs W h hns
  rw [hG] at impl_ spec_
  have HI := Lib.hid impl_
  have HS := Lib.hid spec_
  have hl' : (qs.length : Int) + nm.size ≤ 1048576 := by omega
  have hsz : ¬ (1048576 - (qs.length : Int) - (nm.size : Int) < 0) := by omega
  clear hl hG impl_ spec_
  go_enter Tryd.func10, Tryd.ntmps10
  go_wp2_with fail
  refine (szAddress_fits k _ nm p qs w.heap.size 1048576 _ (HQ.out.below B0.out) B0.out.size hl' (by omega)).mono ?_
  rintro e w1 ⟨rfl, b1⟩
  have K1 := Lib.hid (K0.out.kept b1)
  have B1 := Lib.hid (B0.out.trans (b1.mono B0.out.size))
  have a0 : w1.cell? ⟨w.heap.size, 0, none⟩ = some (.int .i64 k) := K1.out.cell 0
  have a1 : w1.cell? ⟨w.heap.size, 1, none⟩ = some (.slice A qs.length c) := K1.out.cell 1
  have a2 : w1.cell? ⟨w.heap.size, 2, none⟩ = some (.string nm) := K1.out.cell 2
  have a3 : w1.cell? ⟨w.heap.size, 3, none⟩ = some (.int .i64 p) := K1.out.cell 3
  clear b1 K0 B0
  go_wp2_with fail
  refine (toAddress_any k _ nm p qs w.heap.size _ (HQ.out.below B1.out) B1.out.size hql).mono ?_
  rintro e w2 ⟨q2, rfl, o2, b2⟩
  clear a0 a1 a2 a3
  have KB_1 := Lib.hid (K1.out.kept b2)
  have B_2 := Lib.hid (B1.out.trans (b2.mono B1.out.size))
  clear K1 B1 b2
  have Q2_3 := Lib.hid (o2)
  clear o2
  go_wp2_with fail
  refine (HS.out _ _ Q2_3.out.ints.zero).mono ?_
  rintro e w3 ⟨rfl, b3⟩
  clear Q2_3
  have KB_4 := Lib.hid (KB_1.out.kept b3)
  have B_5 := Lib.hid (B_2.out.trans (b3.mono B_2.out.size))
  clear KB_1 B_2 b3
  have a0 : w3.cell? ⟨w.heap.size, 0, none⟩ = some (.int .i64 k) := KB_4.out.cell 0
  have a1 : w3.cell? ⟨w.heap.size, 1, none⟩ = some (.slice A qs.length c) := KB_4.out.cell 1
  have a2 : w3.cell? ⟨w.heap.size, 2, none⟩ = some (.string nm) := KB_4.out.cell 2
  have a3 : w3.cell? ⟨w.heap.size, 3, none⟩ = some (.int .i64 p) := KB_4.out.cell 3
  go_wp2_with fail
  refine (toAddress_any k _ nm p qs w.heap.size _ (HQ.out.below B_5.out) B_5.out.size hql).mono ?_
  rintro e w5 ⟨q5, rfl, o5, b5⟩
  obtain ⟨A5, c5, rfl, _, _, _⟩ := o5.form
  clear a0 a1 a2 a3
  have KB_6 := Lib.hid (KB_4.out.kept b5)
  have B_7 := Lib.hid (B_5.out.trans (b5.mono B_5.out.size))
  clear KB_4 B_5 b5
  have Q5_8 := Lib.hid (o5)
  clear o5
  obtain ⟨V5, hV5⟩ : ∃ V5, w5.alloc (.cells #[.int .i64 k, .slice A5 qs.length c5, .string nm, .int .i64 p] 25) = V5 := ⟨_, rfl⟩
  have KB_9 : Hid (Blk V5 w.heap.size 47 #[.int .i64 k, .slice A qs.length c, .string nm, .int .i64 p]) := Lib.hid (by rw [← hV5]; exact KB_6.out.alloc _)
  have B_10 : Hid (Below w.heap.size w V5) := Lib.hid (by rw [← hV5]; exact B_7.out.alloc B_7.out.size _)
  have Q5_11 : Hid (Own V5 _ (.slice A5 qs.length c5) qs) := Lib.hid (by rw [← hV5]; exact Q5_8.out.alloc _)
  clear KB_6 B_7 Q5_8
  have X5_12 : Hid (Blk V5 w5.heap.size 25 #[.int .i64 k, .slice A5 qs.length c5, .string nm, .int .i64 p]) := Lib.hid (by rw [← hV5]; exact Blk.new _ _ _)
  have x0 : V5.cell? ⟨w5.heap.size, 0, none⟩ = some (.int .i64 k) := X5_12.out.cell 0
  have x1 : V5.cell? ⟨w5.heap.size, 1, none⟩ = some (.slice A5 qs.length c5) := X5_12.out.cell 1
  have x2 : V5.cell? ⟨w5.heap.size, 2, none⟩ = some (.string nm) := X5_12.out.cell 2
  have x3 : V5.cell? ⟨w5.heap.size, 3, none⟩ = some (.int .i64 p) := X5_12.out.cell 3
  go_wp2_with fail
  clear hV5 x0 x1 x2 x3
  refine (HI.out _ _ Q5_11.out.ints.zero (HT.out.below B_10.out)).mono ?_
  rintro e w8 ⟨rfl, b8⟩
  have KB_13 := Lib.hid (KB_9.out.kept b8)
  have B_14 := Lib.hid (B_10.out.trans (b8.mono B_10.out.size))
  have Q5_15 := Lib.hid (Q5_11.out.below b8)
  have X5_16 := Lib.hid (X5_12.out.kept b8)
  clear KB_9 B_10 Q5_11 X5_12 b8
  have CV : Hid (∀ W, Below w8.heap.size w8 W → W.cell? ⟨w5.heap.size, 0, none⟩ = some (.int .i64 k) ∧ W.cell? ⟨w5.heap.size, 1, none⟩ = some (.slice A5 qs.length c5) ∧ W.cell? ⟨w5.heap.size, 2, none⟩ = some (.string nm) ∧ W.cell? ⟨w5.heap.size, 3, none⟩ = some (.int .i64 p) ∧ W.cell? ⟨w.heap.size, 0, none⟩ = some (.int .i64 k) ∧ W.cell? ⟨w.heap.size, 1, none⟩ = some (.slice A qs.length c) ∧ W.cell? ⟨w.heap.size, 2, none⟩ = some (.string nm) ∧ W.cell? ⟨w.heap.size, 3, none⟩ = some (.int .i64 p) ∧ Below w8.heap.size w8 W) := Lib.hid (fun W hb => ⟨(X5_16.out.kept hb).cell 0, (X5_16.out.kept hb).cell 1, (X5_16.out.kept hb).cell 2, (X5_16.out.kept hb).cell 3, (KB_13.out.kept hb).cell 0, (KB_13.out.kept hb).cell 1, (KB_13.out.kept hb).cell 2, (KB_13.out.kept hb).cell 3, hb⟩)
  go_wp2_with fail
  go_region_held3 (fun W => W.cell? ⟨w5.heap.size, 0, none⟩ = some (.int .i64 k) ∧ W.cell? ⟨w5.heap.size, 1, none⟩ = some (.slice A5 qs.length c5) ∧ W.cell? ⟨w5.heap.size, 2, none⟩ = some (.string nm) ∧ W.cell? ⟨w5.heap.size, 3, none⟩ = some (.int .i64 p) ∧ W.cell? ⟨w.heap.size, 0, none⟩ = some (.int .i64 k) ∧ W.cell? ⟨w.heap.size, 1, none⟩ = some (.slice A qs.length c) ∧ W.cell? ⟨w.heap.size, 2, none⟩ = some (.string nm) ∧ W.cell? ⟨w.heap.size, 3, none⟩ = some (.int .i64 p) ∧ Below w8.heap.size w8 W)
    (first | with_reducible exact CV.out _ BW10.out | with_reducible exact CV.out _ BW9.out | with_reducible exact CV.out _ (Below.refl _ w8).drew)
    (first | (go_at_call 31; refine (toAddress_any k _ nm p qs w.heap.size _ (HQ.out.below B_14.out.drew) B_14.out.size hql).mono ?_; rintro e w9 ⟨q9, rfl, o9, b9⟩; obtain ⟨A9, c9, rfl, _, _, _⟩ := o9.form; have O9 := Lib.hid o9; have BW9 : Hid (Below w8.heap.size w8 w9) := Lib.hid ((Below.refl _ w8).drew.trans b9); clear o9 b9) | (go_at_call 32; refine (eqAddress_same k _ _ nm p qs _ (Q5_15.out.ints.zero.below BW9.out) O9.out.ints.zero).mono ?_; rintro e w10 ⟨rfl, b10⟩; have BW10 : Hid (Below w8.heap.size w8 w10) := Lib.hid (BW9.out.trans (b10.mono BW9.out.size)); clear b10) | fail)
  all_goals
    rename_i hS
    have bw := hS.2.2.2.2.2.2.2.2
    clear hS CV
    go_wp2_with fail
    go_ret
    exact ⟨rfl, B_14.out.trans (bw.mono B_14.out.size)⟩

set_option maxRecDepth 100000 in
theorem lifted (os : Os) (started : os.Started) (H : Type) (enc : TypeId × Value → H) :
    ReturnsInHanded {} Tryd.checked os 10 .any (fun w args => (Rows.fnExactConnectTextSpec.pre enc Tryd.prog Tryd.f10 Rows.fnExactConnectTextRow.domain false w args ∧ laidMetH Tryd.prog Rows.fnExactConnectTextRow.laid w) ∧ sizedMet enc Tryd.prog Tryd.f10 (OpenSpec.ofChange Rows.fnExactConnectTextSpec) false w args) (Rows.fnExactConnectTextSpec.post enc Tryd.prog Tryd.f10 false true false false) := by
  refine returnsInHanded_of_change_and (C := Tryd.checked) (X := fun w _ => laidMetH Tryd.prog Rows.fnExactConnectTextRow.laid w) (fun _ _ _ hh h => h.of_heap hh) Tryd.own started (by kernel_rfl) Tryd.func10
    (ChangeSpec.witness_shaped (enc := enc) (C := Tryd.checked) (os := os) (X := fun w _ => laidMetH Tryd.prog Rows.fnExactConnectTextRow.laid w) false (World.laidAll Tryd.prog os Rows.fnExactConnectTextRow.laid) #[.agg #[.int .i64 0, .slice none 0 0, .string .empty, .int .i64 0]] 8 (World.laidAll_os _ _ _)
      (World.shaped_of_ZipB (by kernel_rfl) (by kernel_rfl)) (by kernel_rfl) (by kernel_rfl) (by kernel_rfl)
      (by rw [MakeChecks.laidMetH_plain _ _ _ (by kernel_rfl)]; exact laidMet_laidAll _ (by kernel_rfl) (by kernel_rfl))) ?_
  intro W base args ds gs before hval0 hW hcnd _ hL _
  rw [MakeChecks.laidMetH_plain _ _ _ (by kernel_rfl)] at hL
  have hT : Tabs W := Tabs.of_laid _ rfl hL
  clear hL
  have hval : ∀ (j : Nat) t v, Tryd.f10.params[j]? = some t → args[j]? = some v → Value.okWide Tryd.prog W .any base t v := hval0
  have hW' := hW
  obtain ⟨p, q, hA0, hV, rfl, hfz, hnd⟩ := hW
  have hA : DataW.TrodAll enc Tryd.prog W 0 (fun _ => true) true Tryd.f10.params.toList args.toList ds p := hA0
  rw [Tryd.params10] at hA hval
  obtain ⟨v0, vs0, d0, ds0, p0, q0, hargs, rfl, rfl, h0, r0⟩ := trodAll_cons hA
  obtain ⟨rfl, rfl, rfl⟩ := trodAll_nil r0
  obtain rfl : args = #[v0] := by cases args; simp_all
  obtain ⟨rfl, rfl⟩ := trodVars_none hV
  have k0 := h0
  have lt0 : ∀ x ∈ p0, x.block < W.heap.size := by obtain ⟨m, hm⟩ := k0; exact DataW.trod_lt m _ _ _ hm
  obtain ⟨ak0, aq0, am0, ap0, as0, rfl, ha0, hb0⟩ := ad_of (hval 0 47 v0 rfl rfl) h0
  clear hA0 hval0
  refine (walk ak0 aq0 am0 ap0 as0 W (ha0) (hb0) hT).mono fun e W' ⟨he, bel⟩ => ?_
  subst he
  exact ⟨_, rfl, _, _, _, [], _, [], hW', trodAll_mk1 (shut_bool Tryd.underlying4 _), (trodAll_cons_mk (Below.trod Tryd.laidOut (by kernel_rfl) (of_decide_eq_true (by kernel_rfl)) k0 bel lt0) trodAll_mk0), rfl, bel.frame _, fun h => by cases h⟩

theorem closed : joinedFacts Tryd.prog 10 Tryd.f10 Rows.fnExactConnectTextSpec Rows.fnExactConnectTextRow = true := by
  unfold joinedFacts
  repeat' (with_reducible refine band ?_ ?_)
  all_goals (with_reducible (first | exact Tryd.laidOut | exact kMaps | exact kStops | exact kKnobs | exact kHeard | exact kEnter | refine eqPlain ?_ | refine eqLift ?_ | refine eqMake ?_ | skip))
  all_goals (as_aux_lemma => kernel_rfl)

/-- The row -/
theorem row_holds : Rows.FnExactConnectTextSaid :=
  OpenClaim.holds_of_wide 10 Tryd.f10 rfl rfl rfl rfl rfl rfl rfl ⟨rfl, rfl, rfl, rfl, rfl⟩ rfl rfl rfl rfl rfl (by as_aux_lemma => kernel_rfl) Tryd.func10 closed
    (of_decide_eq_true (by as_aux_lemma => kernel_rfl)) (by unfold Func.isWrapper; first | (rw [if_pos (by decide +kernel)]; kernel_rfl) | (rw [if_neg (by decide +kernel)]; exact ⟨rfl, rfl⟩))
    (fun os started H enc _ => lifted os started H enc)

set_option maxRecDepth 100000 in
/-- THE STATEMENT -/
theorem proved : Rows.FnExactConnectTextCardSaid :=
  Claim7.holds_tied_plain_at .later [] [.data, .data, .data, .data, .pinned] true (true, "be973a5d57cf08116a7e6a47837bfd3f23ecac6c98cd868bd1c5ddfbe69aa512") false row_holds (fun _ h => by cases h) (by as_aux_lemma => kernel_rfl) (fun _ h => by cases h) fnExactConnectText_row_tie rfl ⟨rfl, rfl⟩ (by as_aux_lemma => kernel_rfl) rfl
    (fun f fn hf hfn => by
      obtain rfl : f = 10 := Option.some.inj ((show Tryd.prog.funcNamed "loop.example/proxyframes/laws.FnExactConnectText" = some 10 by kernel_rfl).symm.trans hf) |>.symm
      obtain rfl : fn = Tryd.f10 := (Option.some.inj (Tryd.func10.symm.trans hfn)).symm
      exact ⟨by kernel_rfl, fun j t ht => by
        rw [Tryd.params10] at ht
        have hm : t ∈ [47] := by simpa using Array.mem_of_getElem? ht
        have hall : ([47].all fun u => !Tryd.prog.wantsStandIn u) = true := by kernel_rfl
        exact (show Tryd.prog.wantsStandIn t = false by simpa using List.all_eq_true.1 hall t hm)⟩)
    (by as_aux_lemma => kernel_rfl)
end Go.Proofs.YtdmkacbjdojkpaaDoor.fnExactConnectText

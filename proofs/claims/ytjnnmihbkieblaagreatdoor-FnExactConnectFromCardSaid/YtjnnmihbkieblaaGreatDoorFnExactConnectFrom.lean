/-
  ConnectFrom of the program returns what the reference's returns, for all arguments, in memory that it shares with nothing. Conditions: none.
-/
import Derived.Test.YtjnnmihbkieblaaGreatDoorKitC
import Derived.Test.YtjnnmihbkieblaaGreatDoorConLaid
import Derived.Test.YtjnnmihbkieblaaGreatDoorAdMark
import Derived.Test.YtjnnmihbkieblaaGreatDoorAppend
import Derived.ChangeMaps5
namespace Go.Proofs.YtjnnmihbkieblaaGreatDoor.fnExactConnectFrom
open Go.ChangeShapes Go.WideShapes Go.ChangeAt Go.RowKit Go.ChangeMaps

theorem con_any (s : ByteArray) (hs : s.size < 4294967281) : ∃ K M P N b Q, (∀ W, Tabs W → Errs W → Calls Tryz.prog 10 #[.string s] W fun e w' => ∃ q, e = .returned (.tuple #[.agg #[.int .i64 K, q, .string M, .int .i64 P], .int .i64 N, .bool b]) ∧ Own w' W.heap.size q Q ∧ Below W.heap.size W w') ∧ (∀ W, Calls Tryz.prog 12 #[.string s] W fun e w' => ∃ q, e = .returned (.tuple #[.agg #[.int .i64 K, q, .string M, .int .i64 P], .int .i64 N, .bool b]) ∧ Own w' W.heap.size q Q ∧ Below W.heap.size W w') ∧ Q.length ≤ 4 := by
  rcases con_either s with ⟨k, qs, nm, p, h⟩ | h
  · exact ⟨k, nm, p, _, true, qs, fun W ht he => impl_Con_yes s _ k qs nm p W h rfl hs ht he, fun W => spec_Con_yes s _ k qs nm p W h rfl hs, (adOk_sizes h.1).1⟩
  · exact ⟨0, .empty, 0, 0, false, [], fun W ht he => (impl_Con_no s W h hs ht he).mono fun e w' ⟨h1, h2⟩ => ⟨_, h1, Own.nil_ _ _, h2⟩, fun W => (spec_Con_no s W h hs).mono fun e w' ⟨h1, h2⟩ => ⟨_, h1, Own.nil_ _ _, h2⟩, by simp⟩

set_option maxRecDepth 100000 in
set_option maxHeartbeats 8000000 in
theorem walk (s : ByteArray) (w : World) (_hs : s.size ≤ maxLen) (ht : Tabs w) (he : Errs w) : Calls Tryz.prog 4 #[.string s] w fun e w' => e = .returned (.bool true) ∧ Below w.heap.size w w' := by
  have HT := Lib.hid ht
  have HE := Lib.hid he
  clear ht he _hs
  obtain ⟨z, hz⟩ : ∃ z, s.size = z := ⟨_, rfl⟩
  by_cases hl : 1048576 < z
  · have hl' : (1048576 : Int) < (z : Int) := by omega
    clear hl
    go_enter Tryz.func4, Tryz.ntmps4
    go_wp2_with fail
    go_ret
    exact ⟨rfl, Below.refl _ _⟩
  have hl' : (z : Int) ≤ 1048576 := by omega
  obtain ⟨K, M, P, N, b, Q, hI, hS, hQl⟩ := con_any s (by omega)
  have HI := Lib.hid hI
  have HS := Lib.hid hS
  clear hl hI hS
  go_enter Tryz.func4, Tryz.ntmps4
  go_wp2_with fail
  refine (HS.out _).mono ?_
  rintro e w2 ⟨q2, rfl, o2, b2⟩
  obtain ⟨A2, c2, rfl, _, _, _⟩ := o2.form
  obtain ⟨V2, hV2⟩ : ∃ V2, w2.alloc (.cells #[.int .i64 K, .slice A2 Q.length c2, .string M, .int .i64 P] 25) = V2 := ⟨_, rfl⟩
  have B2 : Hid (Below w.heap.size w V2) := Lib.hid (by rw [← hV2]; exact b2.alloc b2.size _)
  have K2 : Hid (Blk V2 w2.heap.size 25 #[.int .i64 K, .slice A2 Q.length c2, .string M, .int .i64 P]) := Lib.hid (by rw [← hV2]; exact Blk.new _ _ _)
  have O2 : Hid (Own V2 _ (.slice A2 Q.length c2) Q) := Lib.hid (by rw [← hV2]; exact o2.alloc _)
  have z2 : w2.heap.size < V2.heap.size := K2.out.lt
  clear b2 o2
  go_wp2_with fail
  clear hV2
  refine (HI.out _ (HT.out.below B2.out) (HE.out.below B2.out)).mono ?_
  rintro e w4 ⟨q4, rfl, o4, b4⟩
  obtain ⟨A4, c4, rfl, _, _, _⟩ := o4.form
  have P24 := Lib.hid (O2.out.ahead o4)
  have N4 := Lib.hid (o4.newer (g := w2.heap.size) z2)
  have N44 := Lib.hid (o4.oldBlk (Nat.le_refl _))
  have hbs2 : w.heap.size ≤ V2.heap.size := B2.out.size
  obtain ⟨V4, hV4⟩ : ∃ V4, w4.alloc (.cells #[.int .i64 K, .slice A4 Q.length c4, .string M, .int .i64 P] 25) = V4 := ⟨_, rfl⟩
  have O4 : Hid (Own V4 V2.heap.size (.slice A4 Q.length c4) Q) := Lib.hid (by rw [← hV4]; exact o4.alloc _)
  have O24 : Hid (Own V4 _ (.slice A2 Q.length c2) Q) := Lib.hid (by rw [← hV4]; exact (O2.out.below b4).alloc _)
  have B4 : Hid (Below w.heap.size w V4) := Lib.hid (by rw [← hV4]; exact (B2.out.trans (b4.mono B2.out.size)).alloc (B2.out.trans (b4.mono B2.out.size)).size _)
  have K4 : Hid (Blk V4 w2.heap.size 25 #[.int .i64 K, .slice A2 Q.length c2, .string M, .int .i64 P]) := Lib.hid (by rw [← hV4]; exact (K2.out.kept b4).alloc _)
  have X4 : Hid (Blk V4 w4.heap.size 25 #[.int .i64 K, .slice A4 Q.length c4, .string M, .int .i64 P]) := Lib.hid (by rw [← hV4]; exact Blk.new _ _ _)
  have a0 : V4.cell? ⟨w2.heap.size, 0, none⟩ = some (.int .i64 K) := K4.out.cell 0
  have a1 : V4.cell? ⟨w2.heap.size, 1, none⟩ = some (.slice A2 Q.length c2) := K4.out.cell 1
  have a2 : V4.cell? ⟨w2.heap.size, 2, none⟩ = some (.string M) := K4.out.cell 2
  have a3 : V4.cell? ⟨w2.heap.size, 3, none⟩ = some (.int .i64 P) := K4.out.cell 3
  have x0 : V4.cell? ⟨w4.heap.size, 0, none⟩ = some (.int .i64 K) := X4.out.cell 0
  have x1 : V4.cell? ⟨w4.heap.size, 1, none⟩ = some (.slice A4 Q.length c4) := X4.out.cell 1
  have x2 : V4.cell? ⟨w4.heap.size, 2, none⟩ = some (.string M) := X4.out.cell 2
  have x3 : V4.cell? ⟨w4.heap.size, 3, none⟩ = some (.int .i64 P) := X4.out.cell 3
  clear b4 o4 K2 O2
  go_wp2_with fail
  clear hV4 a0 a1 a2 a3 x0 x1 x2 x3
  refine (eqAddress_same K _ _ M P Q _ O4.out.ints.zero O24.out.ints.zero).mono ?_
  rintro e w9 ⟨rfl, b9⟩
  have O49 := Lib.hid (O4.out.below b9)
  have O29 := Lib.hid (O24.out.below b9)
  have K9 := Lib.hid (K4.out.kept b9)
  have X9 := Lib.hid (X4.out.kept b9)
  have B9 := Lib.hid (B4.out.trans (b9.mono B4.out.size))
  clear b9 O4 O24 K4 X4
  have x0 : w9.cell? ⟨w4.heap.size, 0, none⟩ = some (.int .i64 K) := X9.out.cell 0
  have x1 : w9.cell? ⟨w4.heap.size, 1, none⟩ = some (.slice A4 Q.length c4) := X9.out.cell 1
  have x2 : w9.cell? ⟨w4.heap.size, 2, none⟩ = some (.string M) := X9.out.cell 2
  have x3 : w9.cell? ⟨w4.heap.size, 3, none⟩ = some (.int .i64 P) := X9.out.cell 3
  go_wp2_with fail
  refine (markAddress_any K _ M P Q _ 1 _ O49.out.ints (by omega) (by omega) (by omega)).mono ?_
  rintro e w10 ⟨rfl, i10, g10⟩
  have I10 := Lib.hid i10
  have O210 := Lib.hid (O29.out.keep g10 P24.out)
  have K10 := Lib.hid (K9.out.apart (n := 0) g10 N4.out)
  have X10 := Lib.hid (X9.out.apart (n := 0) g10 N44.out)
  have B10 := Lib.hid (B9.out.trans (below_own (O49.out.more hbs2) g10 B9.out.size))
  have hk10 : ¬ (1 + (Q.length : Int) < 0) := by omega
  clear g10 i10 O49 O29 K9 X9 x0 x1 x2 x3
  have x0 : w10.cell? ⟨w4.heap.size, 0, none⟩ = some (.int .i64 K) := X10.out.cell 0
  have x1 : w10.cell? ⟨w4.heap.size, 1, none⟩ = some (.slice A4 Q.length c4) := X10.out.cell 1
  have x2 : w10.cell? ⟨w4.heap.size, 2, none⟩ = some (.string M) := X10.out.cell 2
  have x3 : w10.cell? ⟨w4.heap.size, 3, none⟩ = some (.int .i64 P) := X10.out.cell 3
  go_wp2_with fail
  refine (heldAddress_any K _ M P 1 Q.length _ I10.out.zero (by omega) (by omega) (by omega)).mono ?_
  rintro e w11 ⟨rfl, b11⟩
  have I11 := Lib.hid (I10.out.below b11)
  have O211 := Lib.hid (O210.out.below b11)
  have K11 := Lib.hid (K10.out.kept b11)
  have X11 := Lib.hid (X10.out.kept b11)
  have B11 := Lib.hid (B10.out.trans (b11.mono B10.out.size))
  clear b11 I10 O210 K10 X10 x0 x1 x2 x3
  go_wp2_with fail
  refine (HI.out _ (HT.out.below B11.out) (HE.out.below B11.out)).mono ?_
  rintro e w13 ⟨q13, rfl, o13, b13⟩
  obtain ⟨A13, c13, rfl, _, _, _⟩ := o13.form
  obtain ⟨V13, hV13⟩ : ∃ V13, w13.alloc (.cells #[.int .i64 K, .slice A13 Q.length c13, .string M, .int .i64 P] 25) = V13 := ⟨_, rfl⟩
  have I13 : Hid (Ints V13 _ (.slice A4 Q.length c4) (marks 1 Q.length)) := Lib.hid (by rw [← hV13]; exact (I11.out.below b13).alloc _)
  have O213 : Hid (Own V13 _ (.slice A2 Q.length c2) Q) := Lib.hid (by rw [← hV13]; exact (O211.out.below b13).alloc _)
  have O13 : Hid (Own V13 _ (.slice A13 Q.length c13) Q) := Lib.hid (by rw [← hV13]; exact o13.alloc _)
  have K13 : Hid (Blk V13 w2.heap.size 25 #[.int .i64 K, .slice A2 Q.length c2, .string M, .int .i64 P]) := Lib.hid (by rw [← hV13]; exact (K11.out.kept b13).alloc _)
  have X13 : Hid (Blk V13 w4.heap.size 25 #[.int .i64 K, .slice A4 Q.length c4, .string M, .int .i64 P]) := Lib.hid (by rw [← hV13]; exact (X11.out.kept b13).alloc _)
  have Y13 : Hid (Blk V13 w13.heap.size 25 #[.int .i64 K, .slice A13 Q.length c13, .string M, .int .i64 P]) := Lib.hid (by rw [← hV13]; exact Blk.new _ _ _)
  have B13 : Hid (Below w.heap.size w V13) := Lib.hid (by
    rw [← hV13]
    have h := B11.out.trans (b13.mono B11.out.size)
    exact h.alloc h.size _)
  clear b13 o13 I11 O211 K11 X11
  have a0 : V13.cell? ⟨w2.heap.size, 0, none⟩ = some (.int .i64 K) := K13.out.cell 0
  have a1 : V13.cell? ⟨w2.heap.size, 1, none⟩ = some (.slice A2 Q.length c2) := K13.out.cell 1
  have a2 : V13.cell? ⟨w2.heap.size, 2, none⟩ = some (.string M) := K13.out.cell 2
  have a3 : V13.cell? ⟨w2.heap.size, 3, none⟩ = some (.int .i64 P) := K13.out.cell 3
  have yy0 : V13.cell? ⟨w13.heap.size, 0, none⟩ = some (.int .i64 K) := Y13.out.cell 0
  have yy1 : V13.cell? ⟨w13.heap.size, 1, none⟩ = some (.slice A13 Q.length c13) := Y13.out.cell 1
  have yy2 : V13.cell? ⟨w13.heap.size, 2, none⟩ = some (.string M) := Y13.out.cell 2
  have yy3 : V13.cell? ⟨w13.heap.size, 3, none⟩ = some (.int .i64 P) := Y13.out.cell 3
  go_wp2_with fail
  clear hV13 a0 a1 a2 a3 yy0 yy1 yy2 yy3
  refine (eqAddress_same K _ _ M P Q _ O13.out.ints.zero O213.out.ints.zero).mono ?_
  rintro e w14 ⟨rfl, b14⟩
  have I14 := Lib.hid (I13.out.below b14)
  have X14 := Lib.hid (X13.out.kept b14)
  have B14 := Lib.hid (B13.out.trans (b14.mono B13.out.size))
  clear b14 I13 O213 O13 K13 X13 Y13
  have x0 : w14.cell? ⟨w4.heap.size, 0, none⟩ = some (.int .i64 K) := X14.out.cell 0
  have x1 : w14.cell? ⟨w4.heap.size, 1, none⟩ = some (.slice A4 Q.length c4) := X14.out.cell 1
  have x2 : w14.cell? ⟨w4.heap.size, 2, none⟩ = some (.string M) := X14.out.cell 2
  have x3 : w14.cell? ⟨w4.heap.size, 3, none⟩ = some (.int .i64 P) := X14.out.cell 3
  go_wp2_with fail
  refine (heldAddress_any K _ M P 1 Q.length _ I14.out.zero (by omega) (by omega) (by omega)).mono ?_
  rintro e w15 ⟨rfl, b15⟩
  have B15 := Lib.hid (B14.out.trans (b15.mono B14.out.size))
  clear b15
  go_wp2_with fail
  go_ret
  exact ⟨rfl, B15.out⟩

set_option maxRecDepth 100000 in
theorem lifted (os : Os) (started : os.Started) (H : Type) (enc : TypeId × Value → H) :
    ReturnsInHanded {} Tryz.checked os 4 .any (fun w args => (Rows.fnExactConnectFromSpec.pre enc Tryz.prog Tryz.f4 Rows.fnExactConnectFromRow.domain false w args ∧ laidMetH Tryz.prog Rows.fnExactConnectFromRow.laid w) ∧ sizedMet enc Tryz.prog Tryz.f4 (OpenSpec.ofChange Rows.fnExactConnectFromSpec) false w args) (Rows.fnExactConnectFromSpec.post enc Tryz.prog Tryz.f4 false true false false) := by
  refine returnsInHanded_of_change_and (C := Tryz.checked) (X := fun w _ => laidMetH Tryz.prog Rows.fnExactConnectFromRow.laid w) (fun _ _ _ hh h => h.of_heap hh) Tryz.own started (by kernel_rfl) Tryz.func4
    (ChangeSpec.witness_shaped (enc := enc) (C := Tryz.checked) (os := os) (X := fun w _ => laidMetH Tryz.prog Rows.fnExactConnectFromRow.laid w) false (World.laidAll Tryz.prog os Rows.fnExactConnectFromRow.laid) #[.string .empty] 8 (World.laidAll_os _ _ _)
      (World.shaped_of_ZipB (by kernel_rfl) (by kernel_rfl)) (by kernel_rfl) (by kernel_rfl) (by kernel_rfl)
      (by rw [MakeChecks.laidMetH_plain _ _ _ (by kernel_rfl)]; exact laidMet_laidAll _ (by kernel_rfl) (by kernel_rfl))) ?_
  intro W base args ds gs before hval0 hW hcnd _ hL _
  rw [MakeChecks.laidMetH_plain _ _ _ (by kernel_rfl)] at hL
  have hT : Tabs W := Tabs.of_laid _ rfl hL
  have hR : Errs W := Errs.of_laid _ rfl hL
  clear hL
  have hval : ∀ (j : Nat) t v, Tryz.f4.params[j]? = some t → args[j]? = some v → Value.okWide Tryz.prog W .any base t v := hval0
  have hW' := hW
  obtain ⟨p, q, hA0, hV, rfl, hfz, hnd⟩ := hW
  have hA : DataW.TrodAll enc Tryz.prog W 0 (fun _ => true) true Tryz.f4.params.toList args.toList ds p := hA0
  rw [Tryz.params4] at hA hval
  obtain ⟨v0, vs0, d0, ds0, p0, q0, hargs, rfl, rfl, h0, r0⟩ := trodAll_cons hA
  obtain ⟨rfl, rfl, rfl⟩ := trodAll_nil r0
  obtain rfl : args = #[v0] := by cases args; simp_all
  obtain ⟨rfl, rfl⟩ := trodVars_none hV
  obtain ⟨a0, rfl, rfl, rfl, w0⟩ := open_string Tryz.underlying9 (hval 0 9 v0 rfl rfl) h0
  clear hA0 hval0
  refine (walk a0 W (w0) hT hR).mono fun e W' ⟨he, bel⟩ => ?_
  subst he
  exact ⟨_, rfl, _, _, _, [], _, [], hW', trodAll_mk1 (shut_bool Tryz.underlying4 _), (trodAll_cons_mk (shut_string Tryz.underlying9 w0) trodAll_mk0), rfl, bel.frame _, fun h => by cases h⟩

theorem closed : joinedFacts Tryz.prog 4 Tryz.f4 Rows.fnExactConnectFromSpec Rows.fnExactConnectFromRow = true := by
  unfold joinedFacts
  repeat' (with_reducible refine band ?_ ?_)
  all_goals (with_reducible (first | exact Tryz.laidOut | exact kMaps | exact kStops | exact kKnobs | exact kHeard | exact kEnter | refine eqPlain ?_ | refine eqLift ?_ | refine eqMake ?_ | skip))
  all_goals (as_aux_lemma => kernel_rfl)

/-- The row -/
theorem row_holds : Rows.FnExactConnectFromSaid :=
  OpenClaim.holds_of_wide 4 Tryz.f4 rfl rfl rfl rfl rfl rfl rfl ⟨rfl, rfl, rfl, rfl, rfl⟩ rfl rfl rfl rfl rfl (by as_aux_lemma => kernel_rfl) Tryz.func4 closed
    (of_decide_eq_true (by as_aux_lemma => kernel_rfl)) (by unfold Func.isWrapper; first | (rw [if_pos (by decide +kernel)]; kernel_rfl) | (rw [if_neg (by decide +kernel)]; exact ⟨rfl, rfl⟩))
    (fun os started H enc _ => lifted os started H enc)

set_option maxRecDepth 100000 in
/-- THE STATEMENT -/
theorem proved : Rows.FnExactConnectFromCardSaid :=
  Claim7.holds_tied_plain_at .later [] [.data, .data, .data, .data, .sentinel, .sentinel, .pinned] true (true, "12f77fffc38f7406a318995ee6b2027e38e9c71ed0cba08689d630be31bca1fd") true row_holds (fun _ h => by cases h) (by as_aux_lemma => kernel_rfl) (fun _ h => by cases h) fnExactConnectFrom_row_tie rfl ⟨rfl, rfl⟩ (by as_aux_lemma => kernel_rfl) rfl
    (fun f fn hf hfn => by
      obtain rfl : f = 4 := Option.some.inj ((show Tryz.prog.funcNamed "loop.example/proxyframes/laws.FnExactConnectFrom" = some 4 by kernel_rfl).symm.trans hf) |>.symm
      obtain rfl : fn = Tryz.f4 := (Option.some.inj (Tryz.func4.symm.trans hfn)).symm
      exact ⟨by kernel_rfl, fun j t ht => by
        rw [Tryz.params4] at ht
        have hm : t ∈ [9] := by simpa using Array.mem_of_getElem? ht
        have hall : ([9].all fun u => !Tryz.prog.wantsStandIn u) = true := by kernel_rfl
        exact (show Tryz.prog.wantsStandIn t = false by simpa using List.all_eq_true.1 hall t hm)⟩)
    (by as_aux_lemma => kernel_rfl)
end Go.Proofs.YtjnnmihbkieblaaGreatDoor.fnExactConnectFrom

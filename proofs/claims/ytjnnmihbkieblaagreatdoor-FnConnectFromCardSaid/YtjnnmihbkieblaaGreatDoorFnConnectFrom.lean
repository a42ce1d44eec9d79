/-
  An address has its text: true for every code. Conditions: none.
-/
import Derived.Test.YtjnnmihbkieblaaGreatDoorKitC
import Derived.Test.YtjnnmihbkieblaaGreatDoorConLaid
import Derived.Test.YtjnnmihbkieblaaGreatDoorSameAd
namespace Go.Proofs.YtjnnmihbkieblaaGreatDoor.fnConnectFrom
open Go.ChangeShapes Go.WideShapes Go.ChangeAt Go.RowKit

set_option maxRecDepth 100000 in
set_option maxHeartbeats 4000000 in
theorem walk (v : Value) (bs : List Int) (w : World) (hv : Came .u8 w w.heap.size v bs) (ht : Tabs w) (he : Errs w) : Calls Tryz.prog 5 #[v] w fun e w' => e = .returned (.bool true) ∧ Below w.heap.size w w' := by
  have hv0 := Lib.hid hv
  have T0 := Lib.hid ht
  have E0 := Lib.hid he
  obtain ⟨A, c, rfl, hc, hm, _, _⟩ := hv
  clear ht he
  by_cases hl : 1048576 < bs.length
  · have hl' : (1048576 : Int) < (bs.length : Int) := by omega
    go_enter Tryz.func5, Tryz.ntmps5
    go_wp2_with fail
    go_ret
    exact ⟨rfl, Below.refl _ _⟩
  have hl' : (bs.length : Int) ≤ 1048576 := by omega
  clear hl
  go_enter Tryz.func5, Tryz.ntmps5
  go_wp2_with fail
  refine (DrawConnectFrom_any _ bs w hv0.out).mono ?_
  rintro e w1 ⟨s, rfl, hs, b1⟩
  have B1 := Lib.hid b1
  have hss : s.size < 4294967281 := by omega
  clear b1
  rcases con_either s with ⟨k, qs, nm, p, hcon⟩ | hno
  · have HIC := Lib.hid hcon
    have hsz := conT_size (adT k qs nm p)
    have hbt := beg_take hcon.2
    have hle := beg_le hcon.2
    obtain ⟨C, hC⟩ : ∃ C, conT (adT k qs nm p) = C := ⟨_, rfl⟩
    have EX : Hid (conX k qs nm p = C) := Lib.hid (by rw [← hC]; exact conX_ok hcon.1)
    have HC := Lib.hid hC
    rw [hC] at hsz hbt hle
    obtain ⟨z, hz⟩ : ∃ z, C.size = z := ⟨_, rfl⟩
    obtain ⟨y, hy⟩ : ∃ y, s.size = y := ⟨_, rfl⟩
    rw [hz] at hsz hbt hle
    rw [hy] at hle hs
    have hz1 : (0 : Int) < (z : Int) := by omega
    have hzy : (z : Int) ≤ (y : Int) := by omega
    have hnz := con_fits (a := adT k qs nm p) ⟨hcon.1, rfl⟩
    clear hcon hC hsz hle
    go_wp2_with fail
    refine (impl_Con_yes s C k qs nm p _ HIC.out HC.out hss (T0.out.below B1.out) (E0.out.below B1.out)).mono ?_
    rintro e w4 ⟨q4, rfl, o4, b4⟩
    obtain ⟨A4, c4, rfl, _, _, _⟩ := o4.form
    obtain ⟨V4, hV4⟩ : ∃ V4, w4.alloc (.cells #[.int .i64 k, .slice A4 qs.length c4, .string nm, .int .i64 p] 25) = V4 := ⟨_, rfl⟩
    have X4 : Hid (Blk V4 w4.heap.size 25 #[.int .i64 k, .slice A4 qs.length c4, .string nm, .int .i64 p]) := Lib.hid (by rw [← hV4]; exact Blk.new _ _ _)
    have J4 : Hid (Ints V4 0 (.slice A4 qs.length c4) qs) := Lib.hid (by rw [← hV4]; exact (o4.alloc _).ints.zero)
    have B4 : Hid (Below w.heap.size w V4) := Lib.hid (by rw [← hV4]; exact (B1.out.trans (b4.mono B1.out.size)).alloc (B1.out.trans (b4.mono B1.out.size)).size _)
    clear o4 b4 B1
    go_wp2_with fail
    clear hV4
    refine (spec_Con_yes s C k qs nm p _ HIC.out HC.out hss).mono ?_
    rintro e w5 ⟨q5, rfl, o5, b5⟩
    obtain ⟨A5, c5, rfl, _, _, _⟩ := o5.form
    obtain ⟨V5, hV5⟩ : ∃ V5, w5.alloc (.cells #[.int .i64 k, .slice A5 qs.length c5, .string nm, .int .i64 p] 25) = V5 := ⟨_, rfl⟩
    have Y5 : Hid (Blk V5 w5.heap.size 25 #[.int .i64 k, .slice A5 qs.length c5, .string nm, .int .i64 p]) := Lib.hid (by rw [← hV5]; exact Blk.new _ _ _)
    have L5 : Hid (Ints V5 0 (.slice A5 qs.length c5) qs) := Lib.hid (by rw [← hV5]; exact (o5.alloc _).ints.zero)
    have X5 : Hid (Blk V5 w4.heap.size 25 #[.int .i64 k, .slice A4 qs.length c4, .string nm, .int .i64 p]) := Lib.hid (by rw [← hV5]; exact (X4.out.kept b5).alloc _)
    have J5 : Hid (Ints V5 0 (.slice A4 qs.length c4) qs) := Lib.hid (by rw [← hV5]; exact (J4.out.below b5).alloc _)
    have B5 : Hid (Below w.heap.size w V5) := Lib.hid (by rw [← hV5]; exact (B4.out.trans (b5.mono B4.out.size)).alloc (B4.out.trans (b5.mono B4.out.size)).size _)
    have x0 : V5.cell? ⟨w4.heap.size, 0, none⟩ = some (.int .i64 k) := X5.out.cell 0
    have x1 : V5.cell? ⟨w4.heap.size, 1, none⟩ = some (.slice A4 qs.length c4) := X5.out.cell 1
    have x2 : V5.cell? ⟨w4.heap.size, 2, none⟩ = some (.string nm) := X5.out.cell 2
    have x3 : V5.cell? ⟨w4.heap.size, 3, none⟩ = some (.int .i64 p) := X5.out.cell 3
    have y0 : V5.cell? ⟨w5.heap.size, 0, none⟩ = some (.int .i64 k) := Y5.out.cell 0
    have y1 : V5.cell? ⟨w5.heap.size, 1, none⟩ = some (.slice A5 qs.length c5) := Y5.out.cell 1
    have y2 : V5.cell? ⟨w5.heap.size, 2, none⟩ = some (.string nm) := Y5.out.cell 2
    have y3 : V5.cell? ⟨w5.heap.size, 3, none⟩ = some (.int .i64 p) := Y5.out.cell 3
    clear o5 b5 X4 J4 B4
    go_wp2_with fail
    clear hV5 x0 x1 x2 x3 y0 y1 y2 y3
    refine (sameAddress_same k _ _ nm p qs _ J5.out L5.out).mono ?_
    rintro e w6 ⟨rfl, b6⟩
    have X6 := Lib.hid (X5.out.kept b6)
    have J6 := Lib.hid (J5.out.below b6)
    have B6 := Lib.hid (B5.out.trans (b6.mono B5.out.size))
    have x0 : w6.cell? ⟨w4.heap.size, 0, none⟩ = some (.int .i64 k) := X6.out.cell 0
    have x1 : w6.cell? ⟨w4.heap.size, 1, none⟩ = some (.slice A4 qs.length c4) := X6.out.cell 1
    have x2 : w6.cell? ⟨w4.heap.size, 2, none⟩ = some (.string nm) := X6.out.cell 2
    have x3 : w6.cell? ⟨w4.heap.size, 3, none⟩ = some (.int .i64 p) := X6.out.cell 3
    clear b6 X5 Y5 J5 L5 B5
    go_wp2_with fail
    clear x0 x1 x2 x3
    refine (impl_ConnectText_any k _ nm p qs _ J6.out hnz (T0.out.below B6.out)).mono ?_
    rintro e w7 ⟨rfl, b7⟩
    rw [EX.out]
    have B7 := Lib.hid (B6.out.trans (b7.mono B6.out.size))
    clear b7
    go_wp2_with fail
    go_ret
    exact ⟨by simp; omega, B7.out⟩
  · have NC := Lib.hid hno
    clear hno
    go_wp2_with fail
    refine (impl_Con_no s _ NC.out hss (T0.out.below B1.out) (E0.out.below B1.out)).mono ?_
    rintro e w4 ⟨rfl, b4⟩
    have X4 := Lib.hid (Blk.new w4 25 #[.int .i64 0, .slice none 0 0, .string .empty, .int .i64 0])
    have B4 := Lib.hid ((B1.out.trans (b4.mono B1.out.size)).alloc (B1.out.trans (b4.mono B1.out.size)).size (.cells #[.int .i64 0, .slice none 0 0, .string .empty, .int .i64 0] 25))
    clear b4 B1
    go_wp2_with fail
    refine (spec_Con_no s _ NC.out hss).mono ?_
    rintro e w5 ⟨rfl, b5⟩
    have X5 := Lib.hid ((X4.out.kept b5).alloc (.cells #[.int .i64 0, .slice none 0 0, .string .empty, .int .i64 0] 25))
    have Y5 := Lib.hid (Blk.new w5 25 #[.int .i64 0, .slice none 0 0, .string .empty, .int .i64 0])
    have B5 := Lib.hid ((B4.out.trans (b5.mono B4.out.size)).alloc (B4.out.trans (b5.mono B4.out.size)).size (.cells #[.int .i64 0, .slice none 0 0, .string .empty, .int .i64 0] 25))
    have x0 : (w5.alloc (.cells #[.int .i64 0, .slice none 0 0, .string .empty, .int .i64 0] 25)).cell? ⟨w4.heap.size, 0, none⟩ = some (.int .i64 0) := X5.out.cell 0
    have x1 : (w5.alloc (.cells #[.int .i64 0, .slice none 0 0, .string .empty, .int .i64 0] 25)).cell? ⟨w4.heap.size, 1, none⟩ = some (.slice none 0 0) := X5.out.cell 1
    have x2 : (w5.alloc (.cells #[.int .i64 0, .slice none 0 0, .string .empty, .int .i64 0] 25)).cell? ⟨w4.heap.size, 2, none⟩ = some (.string .empty) := X5.out.cell 2
    have x3 : (w5.alloc (.cells #[.int .i64 0, .slice none 0 0, .string .empty, .int .i64 0] 25)).cell? ⟨w4.heap.size, 3, none⟩ = some (.int .i64 0) := X5.out.cell 3
    have y0 : (w5.alloc (.cells #[.int .i64 0, .slice none 0 0, .string .empty, .int .i64 0] 25)).cell? ⟨w5.heap.size, 0, none⟩ = some (.int .i64 0) := Y5.out.cell 0
    have y1 : (w5.alloc (.cells #[.int .i64 0, .slice none 0 0, .string .empty, .int .i64 0] 25)).cell? ⟨w5.heap.size, 1, none⟩ = some (.slice none 0 0) := Y5.out.cell 1
    have y2 : (w5.alloc (.cells #[.int .i64 0, .slice none 0 0, .string .empty, .int .i64 0] 25)).cell? ⟨w5.heap.size, 2, none⟩ = some (.string .empty) := Y5.out.cell 2
    have y3 : (w5.alloc (.cells #[.int .i64 0, .slice none 0 0, .string .empty, .int .i64 0] 25)).cell? ⟨w5.heap.size, 3, none⟩ = some (.int .i64 0) := Y5.out.cell 3
    clear b5 X4 B4
    go_wp2_with fail
    refine (sameAddress_same 0 _ _ .empty 0 [] _ (Own.nil_ _ 0).ints (Own.nil_ _ 0).ints).mono ?_
    rintro e w6 ⟨rfl, b6⟩
    have X6 := Lib.hid (X5.out.kept b6)
    have Y6 := Lib.hid (Y5.out.kept b6)
    have B6 := Lib.hid (B5.out.trans (b6.mono B5.out.size))
    clear x0 x1 x2 x3 y0 y1 y2 y3
    have x0 : w6.cell? ⟨w4.heap.size, 0, none⟩ = some (.int .i64 0) := X6.out.cell 0
    have x1 : w6.cell? ⟨w4.heap.size, 1, none⟩ = some (.slice none 0 0) := X6.out.cell 1
    have x2 : w6.cell? ⟨w4.heap.size, 2, none⟩ = some (.string .empty) := X6.out.cell 2
    have x3 : w6.cell? ⟨w4.heap.size, 3, none⟩ = some (.int .i64 0) := X6.out.cell 3
    have y0 : w6.cell? ⟨w5.heap.size, 0, none⟩ = some (.int .i64 0) := Y6.out.cell 0
    have y1 : w6.cell? ⟨w5.heap.size, 1, none⟩ = some (.slice none 0 0) := Y6.out.cell 1
    have y2 : w6.cell? ⟨w5.heap.size, 2, none⟩ = some (.string .empty) := Y6.out.cell 2
    have y3 : w6.cell? ⟨w5.heap.size, 3, none⟩ = some (.int .i64 0) := Y6.out.cell 3
    clear b6 X5 Y5 B5
    go_wp2_with fail
    refine (sameAddress_same 0 _ _ .empty 0 [] _ (Own.nil_ _ 0).ints (Own.nil_ _ 0).ints).mono ?_
    rintro e w7 ⟨rfl, b7⟩
    have B7 := Lib.hid (B6.out.trans (b7.mono B6.out.size))
    clear b7 x0 x1 x2 x3 y0 y1 y2 y3
    go_wp2_with fail
    go_ret
    exact ⟨by simp, B7.out⟩

set_option maxRecDepth 100000 in
theorem lifted (os : Os) (started : os.Started) (H : Type) (enc : TypeId × Value → H) :
    ReturnsInHanded {} Tryz.checked os 5 .any (fun w args => (Rows.fnConnectFromSpec.pre enc Tryz.prog Tryz.f5 Rows.fnConnectFromRow.domain false w args ∧ laidMetH Tryz.prog Rows.fnConnectFromRow.laid w) ∧ sizedMet enc Tryz.prog Tryz.f5 (OpenSpec.ofChange Rows.fnConnectFromSpec) false w args) (Rows.fnConnectFromSpec.post enc Tryz.prog Tryz.f5 false true false false) := by
  refine returnsInHanded_of_change_and (C := Tryz.checked) (X := fun w _ => laidMetH Tryz.prog Rows.fnConnectFromRow.laid w) (fun _ _ _ hh h => h.of_heap hh) Tryz.own started (by kernel_rfl) Tryz.func5
    (ChangeSpec.witness_shaped (enc := enc) (C := Tryz.checked) (os := os) (X := fun w _ => laidMetH Tryz.prog Rows.fnConnectFromRow.laid w) false (World.laidAll Tryz.prog os Rows.fnConnectFromRow.laid) #[.slice none 0 0] 8 (World.laidAll_os _ _ _)
      (World.shaped_of_ZipB (by kernel_rfl) (by kernel_rfl)) (by kernel_rfl) (by kernel_rfl) (by kernel_rfl)
      (by rw [MakeChecks.laidMetH_plain _ _ _ (by kernel_rfl)]; exact laidMet_laidAll _ (by kernel_rfl) (by kernel_rfl))) ?_
  intro W base args ds gs before hval0 hW hcnd _ hL _
  rw [MakeChecks.laidMetH_plain _ _ _ (by kernel_rfl)] at hL
  have hT : Tabs W := Tabs.of_laid _ rfl hL
  have hR : Errs W := Errs.of_laid _ rfl hL
  clear hL
  have hval : ∀ (j : Nat) t v, Tryz.f5.params[j]? = some t → args[j]? = some v → Value.okWide Tryz.prog W .any base t v := hval0
  have hW' := hW
  obtain ⟨p, q, hA0, hV, rfl, hfz, hnd⟩ := hW
  have hA : DataW.TrodAll enc Tryz.prog W 0 (fun _ => true) true Tryz.f5.params.toList args.toList ds p := hA0
  rw [Tryz.params5] at hA hval
  obtain ⟨v0, vs0, d0, ds0, p0, q0, hargs, rfl, rfl, h0, r0⟩ := trodAll_cons hA
  obtain ⟨rfl, rfl, rfl⟩ := trodAll_nil r0
  obtain rfl : args = #[v0] := by cases args; simp_all
  obtain ⟨rfl, rfl⟩ := trodVars_none hV
  obtain ⟨a0, len0, cap0, rfl⟩ := okWide_slice Tryz.underlying22 (hval 0 22 v0 rfl rfl)
  have k0 := h0
  have lt0 : ∀ x ∈ p0, x.block < W.heap.size := by obtain ⟨m, hm⟩ := k0; exact DataW.trod_lt m _ _ _ hm
  obtain ⟨z0, w0⟩ : ∃ zs, IsRow .u8 W a0 len0 cap0 zs := by
    obtain ⟨fuel, hf⟩ := h0
    rcases open_ints Tryz.underlying22 Tryz.underlying5 (by kernel_rfl) hf with ⟨hcs, _⟩ | ⟨x, l, c, zs, hcs, _, hl, hm, hz, _, hcell, hwz⟩
    · simp [Value.cells] at hcs
      obtain ⟨rfl, rfl, rfl⟩ := hcs
      exact ⟨[], .inl ⟨rfl, rfl, rfl, rfl⟩⟩
    · simp [Value.cells] at hcs
      obtain ⟨rfl, rfl, rfl⟩ := hcs
      exact ⟨zs, .inr ⟨_, rfl, hl, hm, by simpa using hz, hcell, hwz⟩⟩
  clear hA0 hval0
  refine (walk (.slice a0 len0 cap0) _ W ((Came.of_row w0).1) hT hR).mono fun e W' ⟨he, bel⟩ => ?_
  subst he
  exact ⟨_, rfl, _, _, _, [], _, [], hW', trodAll_mk1 (shut_bool Tryz.underlying4 _), (trodAll_cons_mk (Below.trod Tryz.laidOut (by kernel_rfl) (of_decide_eq_true (by kernel_rfl)) k0 bel lt0) trodAll_mk0), rfl, bel.frame _, fun h => by cases h⟩

theorem closed : joinedFacts Tryz.prog 5 Tryz.f5 Rows.fnConnectFromSpec Rows.fnConnectFromRow = true := by
  unfold joinedFacts
  repeat' (with_reducible refine band ?_ ?_)
  all_goals (with_reducible (first | exact Tryz.laidOut | exact kMaps | exact kStops | exact kKnobs | exact kHeard | exact kEnter | refine eqPlain ?_ | refine eqLift ?_ | refine eqMake ?_ | skip))
  all_goals (as_aux_lemma => kernel_rfl)

/-- The row -/
theorem row_holds : Rows.FnConnectFromSaid :=
  OpenClaim.holds_of_wide 5 Tryz.f5 rfl rfl rfl rfl rfl rfl rfl ⟨rfl, rfl, rfl, rfl, rfl⟩ rfl rfl rfl rfl rfl (by as_aux_lemma => kernel_rfl) Tryz.func5 closed
    (of_decide_eq_true (by as_aux_lemma => kernel_rfl)) (by unfold Func.isWrapper; first | (rw [if_pos (by decide +kernel)]; kernel_rfl) | (rw [if_neg (by decide +kernel)]; exact ⟨rfl, rfl⟩))
    (fun os started H enc _ => lifted os started H enc)

set_option maxRecDepth 100000 in
/-- THE STATEMENT -/
theorem proved : Rows.FnConnectFromCardSaid :=
  Claim7.holds_tied_plain_at .later [] [.data, .data, .data, .data, .sentinel, .sentinel, .pinned] true (true, "12f77fffc38f7406a318995ee6b2027e38e9c71ed0cba08689d630be31bca1fd") true row_holds (fun _ h => by cases h) (by as_aux_lemma => kernel_rfl) (fun _ h => by cases h) fnConnectFrom_row_tie rfl ⟨rfl, rfl⟩ (by as_aux_lemma => kernel_rfl) rfl
    (fun f fn hf hfn => by
      obtain rfl : f = 5 := Option.some.inj ((show Tryz.prog.funcNamed "loop.example/proxyframes/laws.FnConnectFrom" = some 5 by kernel_rfl).symm.trans hf) |>.symm
      obtain rfl : fn = Tryz.f5 := (Option.some.inj (Tryz.func5.symm.trans hfn)).symm
      exact ⟨by kernel_rfl, fun j t ht => by
        rw [Tryz.params5] at ht
        have hm : t ∈ [22] := by simpa using Array.mem_of_getElem? ht
        have hall : ([22].all fun u => !Tryz.prog.wantsStandIn u) = true := by kernel_rfl
        exact (show Tryz.prog.wantsStandIn t = false by simpa using List.all_eq_true.1 hall t hm)⟩)
    (by as_aux_lemma => kernel_rfl)
end Go.Proofs.YtjnnmihbkieblaaGreatDoor.fnConnectFrom

/-
  A part of what asks for a tunnel does not ask: true for every code. Conditions: none.
-/
import Derived.Test.YtjnnmihbkieblaaGreatDoorKitC
import Derived.Test.YtjnnmihbkieblaaGreatDoorConLaid
namespace Go.Proofs.YtjnnmihbkieblaaGreatDoor.fnConnectCut
open Go.ChangeShapes Go.WideShapes Go.ChangeAt Go.RowKit

set_option maxRecDepth 100000 in
set_option maxHeartbeats 4000000 in
theorem walk (v : Value) (bs : List Int) (u : Value) (ms : List Int) (w : World) (hv : Came .u8 w w.heap.size v bs) (hu : Came .u8 w w.heap.size u ms) (ht : Tabs w) (he : Errs w) : Calls Tryz.prog 6 #[v, u] w fun e w' => e = .returned (.bool true) ∧ Below w.heap.size w w' := by
  have hv0 := Lib.hid hv
  have T0 := Lib.hid ht
  have E0 := Lib.hid he
  obtain ⟨A, c, rfl, hc, hm, _, _⟩ := hv
  clear ht he
  by_cases hl : 1048576 < bs.length
  · have hl' : (1048576 : Int) < (bs.length : Int) := by omega
    go_enter Tryz.func6, Tryz.ntmps6
    go_wp2_with fail
    go_ret
    exact ⟨rfl, Below.refl _ _⟩
  have hl' : (bs.length : Int) ≤ 1048576 := by omega
  clear hl
  obtain ⟨A', c', rfl, hc', hm', _, _⟩ := hu
  by_cases hk : 1048576 < ms.length
  · have hk' : (1048576 : Int) < (ms.length : Int) := by omega
    go_enter Tryz.func6, Tryz.ntmps6
    go_wp2_with fail
    go_ret
    exact ⟨rfl, Below.refl _ _⟩
  have hk' : (ms.length : Int) ≤ 1048576 := by omega
  clear hk
  go_enter Tryz.func6, Tryz.ntmps6
  go_wp2_with fail
  refine (DrawConnectText_any _ bs w hv0.out).mono ?_
  rintro e w1 ⟨k, q, qs, nm, p, rfl, o1, lq, hs, b1⟩
  obtain ⟨A1, c1, rfl, hc1, hm1, _⟩ := o1.form
  have hns : nm.size < 4294967281 := by omega
  obtain ⟨V1, hV1⟩ : ∃ V1, w1.alloc (.cells #[.int .i64 k, .slice A1 qs.length c1, .string nm, .int .i64 p] 25) = V1 := ⟨_, rfl⟩
  have K1 : Hid (Blk V1 w1.heap.size 25 #[.int .i64 k, .slice A1 qs.length c1, .string nm, .int .i64 p]) := Lib.hid (by rw [← hV1]; exact Blk.new _ _ _)
  have I1 : Hid (Ints V1 0 (.slice A1 qs.length c1) qs) := Lib.hid (by rw [← hV1]; exact (o1.alloc _).ints.zero)
  have B1 : Hid (Below w.heap.size w V1) := Lib.hid (by rw [← hV1]; exact b1.alloc b1.size _)
  have a0 : V1.cell? ⟨w1.heap.size, 0, none⟩ = some (.int .i64 k) := K1.out.cell 0
  have a1 : V1.cell? ⟨w1.heap.size, 1, none⟩ = some (.slice A1 qs.length c1) := K1.out.cell 1
  have a2 : V1.cell? ⟨w1.heap.size, 2, none⟩ = some (.string nm) := K1.out.cell 2
  have a3 : V1.cell? ⟨w1.heap.size, 3, none⟩ = some (.int .i64 p) := K1.out.cell 3
  clear o1 b1
  go_wp2_with fail
  clear hV1 a0 a1 a2 a3
  refine (impl_ConnectText_any k _ nm p qs _ I1.out hns (T0.out.below B1.out)).mono ?_
  rintro e w2 ⟨rfl, b2⟩
  have I2 := Lib.hid (I1.out.below b2)
  have K2 := Lib.hid (K1.out.kept b2)
  have B2 := Lib.hid (B1.out.trans (b2.mono B1.out.size))
  have a0 : w2.cell? ⟨w1.heap.size, 0, none⟩ = some (.int .i64 k) := K2.out.cell 0
  have a1 : w2.cell? ⟨w1.heap.size, 1, none⟩ = some (.slice A1 qs.length c1) := K2.out.cell 1
  have a2 : w2.cell? ⟨w1.heap.size, 2, none⟩ = some (.string nm) := K2.out.cell 2
  have a3 : w2.cell? ⟨w1.heap.size, 3, none⟩ = some (.int .i64 p) := K2.out.cell 3
  clear b2 K1 I1 B1
  go_wp2_with fail
  clear a0 a1 a2 a3
  refine (spec_ConnectText_any k _ nm p qs _ I2.out hns).mono ?_
  rintro e w3 ⟨rfl, b3⟩
  have I3 := Lib.hid (I2.out.below b3)
  have K3 := Lib.hid (K2.out.kept b3)
  have B3 := Lib.hid (B2.out.trans (b3.mono B2.out.size))
  clear b3 K2 I2 B2
  cases ha : adOk k qs nm p
  · rw [conX_not ha]
    clear ha
    go_wp2_with fail
    go_ret
    exact ⟨rfl, B3.out⟩
  rw [conX_ok ha]
  have hsz := conT_size (adT k qs nm p)
  have hz0 := adT_size ha
  have CP := fun n hn => con_part (n := n) ha hn
  obtain ⟨C, hC⟩ : ∃ C, conT (adT k qs nm p) = C := ⟨_, rfl⟩
  rw [hC] at hsz ⊢
  have HC := Lib.hid hC
  obtain ⟨z, hz⟩ : ∃ z, C.size = z := ⟨_, rfl⟩
  rw [hz] at hsz
  have hzs : z ≤ 300 := by omega
  have hz1 : 0 < z := by omega
  have hne : C.toList.isEmpty = false := filled_of (by omega)
  rw [hC] at CP
  obtain ⟨m, hmm⟩ : ∃ m, ms.length = m := ⟨_, rfl⟩
  have hk : m % z < z := Nat.mod_lt _ hz1
  have EM : Hid ((m : Int) % (z : Int) = ((m % z : Nat) : Int)) := Lib.hid (by simp)
  obtain ⟨j, hjj⟩ : ∃ j, m % z = j := ⟨_, rfl⟩
  rw [hjj] at hk EM
  have NC := Lib.hid (CP j (by rw [hz]; exact hk))
  have EM2 : (m : Int).tmod (z : Int) = (j : Int) := by rw [Int.tmod_eq_emod_of_nonneg (Int.natCast_nonneg _)]; exact EM.out
  have EM3 : (m : Int) % (z : Int) = (j : Int) := EM.out
  have hkc : (j : Int) ≤ (z : Int) := by omega
  have hn1 : (1 : Int) ≤ (z : Int) := by omega
  have hn0 : ¬ z = 0 := by omega
  have hsx : (C.extract 0 j).size < 4294967281 := by rw [ByteArray.size_extract]; omega
  have HSX := Lib.hid hsx
  rw [hmm] at hk'
  clear CP hC hsz hz0 ha hjj hsx
  go_wp2_with fail
  refine (impl_Con_no (C.extract 0 j) _ NC.out HSX.out (T0.out.below B3.out) (E0.out.below B3.out)).mono ?_
  rintro e w4 ⟨rfl, b4⟩
  have B4 := Lib.hid (B3.out.trans (b4.mono B3.out.size))
  clear b4
  go_wp2_with fail
  go_ret
  exact ⟨by simp, B4.out.alloc B4.out.size _⟩

set_option maxRecDepth 100000 in
theorem lifted (os : Os) (started : os.Started) (H : Type) (enc : TypeId × Value → H) :
    ReturnsInHanded {} Tryz.checked os 6 .any (fun w args => (Rows.fnConnectCutSpec.pre enc Tryz.prog Tryz.f6 Rows.fnConnectCutRow.domain false w args ∧ laidMetH Tryz.prog Rows.fnConnectCutRow.laid w) ∧ sizedMet enc Tryz.prog Tryz.f6 (OpenSpec.ofChange Rows.fnConnectCutSpec) false w args) (Rows.fnConnectCutSpec.post enc Tryz.prog Tryz.f6 false true false false) := by
  refine returnsInHanded_of_change_and (C := Tryz.checked) (X := fun w _ => laidMetH Tryz.prog Rows.fnConnectCutRow.laid w) (fun _ _ _ hh h => h.of_heap hh) Tryz.own started (by kernel_rfl) Tryz.func6
    (ChangeSpec.witness_shaped (enc := enc) (C := Tryz.checked) (os := os) (X := fun w _ => laidMetH Tryz.prog Rows.fnConnectCutRow.laid w) false (World.laidAll Tryz.prog os Rows.fnConnectCutRow.laid) #[.slice none 0 0, .slice none 0 0] 8 (World.laidAll_os _ _ _)
      (World.shaped_of_ZipB (by kernel_rfl) (by kernel_rfl)) (by kernel_rfl) (by kernel_rfl) (by kernel_rfl)
      (by rw [MakeChecks.laidMetH_plain _ _ _ (by kernel_rfl)]; exact laidMet_laidAll _ (by kernel_rfl) (by kernel_rfl))) ?_
  intro W base args ds gs before hval0 hW hcnd _ hL _
  rw [MakeChecks.laidMetH_plain _ _ _ (by kernel_rfl)] at hL
  have hT : Tabs W := Tabs.of_laid _ rfl hL
  have hR : Errs W := Errs.of_laid _ rfl hL
  clear hL
  have hval : ∀ (j : Nat) t v, Tryz.f6.params[j]? = some t → args[j]? = some v → Value.okWide Tryz.prog W .any base t v := hval0
  have hW' := hW
  obtain ⟨p, q, hA0, hV, rfl, hfz, hnd⟩ := hW
  have hA : DataW.TrodAll enc Tryz.prog W 0 (fun _ => true) true Tryz.f6.params.toList args.toList ds p := hA0
  rw [Tryz.params6] at hA hval
  obtain ⟨v0, vs0, d0, ds0, p0, q0, hargs, rfl, rfl, h0, r0⟩ := trodAll_cons hA
  obtain ⟨v1, vs1, d1, ds1, p1, q1, rfl, rfl, rfl, h1, r1⟩ := trodAll_cons r0
  obtain ⟨rfl, rfl, rfl⟩ := trodAll_nil r1
  obtain rfl : args = #[v0, v1] := by cases args; simp_all
  obtain ⟨rfl, rfl⟩ := trodVars_none hV
  obtain ⟨a0, len0, cap0, rfl⟩ := okWide_slice Tryz.underlying22 (hval 0 22 v0 rfl rfl)
  have k0 := h0
  have lt0 : ∀ x ∈ p0, x.block < W.heap.size := by obtain ⟨m, hm⟩ := k0; exact DataW.trod_lt m _ _ _ hm
  obtain ⟨z0, w0⟩ : ∃ zs, IsRow .u8 W a0 len0 cap0 zs := by
    obtain ⟨fuel, hf⟩ := h0
    rcases open_ints Tryz.underlying22 Tryz.underlying5 (by kernel_rfl) hf with ⟨hcs, _⟩ | ⟨x, l, c, zs, hcs, _, hl, hm, hz, _, hcell, hwz⟩
    · simp [Value.cells] at hcs
      obtain ⟨rfl, rfl, rfl⟩ := hcs
      exact ⟨[], .inl ⟨rfl, rfl, rfl, rfl⟩⟩
    · simp [Value.cells] at hcs
      obtain ⟨rfl, rfl, rfl⟩ := hcs
      exact ⟨zs, .inr ⟨_, rfl, hl, hm, by simpa using hz, hcell, hwz⟩⟩
  obtain ⟨a1, len1, cap1, rfl⟩ := okWide_slice Tryz.underlying22 (hval 1 22 v1 rfl rfl)
  have k1 := h1
  have lt1 : ∀ x ∈ p1, x.block < W.heap.size := by obtain ⟨m, hm⟩ := k1; exact DataW.trod_lt m _ _ _ hm
  obtain ⟨z1, w1⟩ : ∃ zs, IsRow .u8 W a1 len1 cap1 zs := by
    obtain ⟨fuel, hf⟩ := h1
    rcases open_ints Tryz.underlying22 Tryz.underlying5 (by kernel_rfl) hf with ⟨hcs, _⟩ | ⟨x, l, c, zs, hcs, _, hl, hm, hz, _, hcell, hwz⟩
    · simp [Value.cells] at hcs
      obtain ⟨rfl, rfl, rfl⟩ := hcs
      exact ⟨[], .inl ⟨rfl, rfl, rfl, rfl⟩⟩
    · simp [Value.cells] at hcs
      obtain ⟨rfl, rfl, rfl⟩ := hcs
      exact ⟨zs, .inr ⟨_, rfl, hl, hm, by simpa using hz, hcell, hwz⟩⟩
  clear hA0 hval0
  refine (walk (.slice a0 len0 cap0) _ (.slice a1 len1 cap1) _ W ((Came.of_row w0).1) ((Came.of_row w1).1) hT hR).mono fun e W' ⟨he, bel⟩ => ?_
  subst he
  exact ⟨_, rfl, _, _, _, [], _, [], hW', trodAll_mk1 (shut_bool Tryz.underlying4 _), (trodAll_cons_mk (Below.trod Tryz.laidOut (by kernel_rfl) (of_decide_eq_true (by kernel_rfl)) k0 bel lt0) (trodAll_cons_mk (Below.trod Tryz.laidOut (by kernel_rfl) (of_decide_eq_true (by kernel_rfl)) k1 bel lt1) trodAll_mk0)), rfl, bel.frame _, fun h => by cases h⟩

theorem closed : joinedFacts Tryz.prog 6 Tryz.f6 Rows.fnConnectCutSpec Rows.fnConnectCutRow = true := by
  unfold joinedFacts
  repeat' (with_reducible refine band ?_ ?_)
  all_goals (with_reducible (first | exact Tryz.laidOut | exact kMaps | exact kStops | exact kKnobs | exact kHeard | exact kEnter | refine eqPlain ?_ | refine eqLift ?_ | refine eqMake ?_ | skip))
  all_goals (as_aux_lemma => kernel_rfl)

/-- The row -/
theorem row_holds : Rows.FnConnectCutSaid :=
  OpenClaim.holds_of_wide 6 Tryz.f6 rfl rfl rfl rfl rfl rfl rfl ⟨rfl, rfl, rfl, rfl, rfl⟩ rfl rfl rfl rfl rfl (by as_aux_lemma => kernel_rfl) Tryz.func6 closed
    (of_decide_eq_true (by as_aux_lemma => kernel_rfl)) (by unfold Func.isWrapper; first | (rw [if_pos (by decide +kernel)]; kernel_rfl) | (rw [if_neg (by decide +kernel)]; exact ⟨rfl, rfl⟩))
    (fun os started H enc _ => lifted os started H enc)

set_option maxRecDepth 100000 in
/-- THE STATEMENT -/
theorem proved : Rows.FnConnectCutCardSaid :=
  Claim7.holds_tied_plain_at .later [] [.data, .data, .data, .data, .sentinel, .sentinel, .pinned] true (true, "12f77fffc38f7406a318995ee6b2027e38e9c71ed0cba08689d630be31bca1fd") true row_holds (fun _ h => by cases h) (by as_aux_lemma => kernel_rfl) (fun _ h => by cases h) fnConnectCut_row_tie rfl ⟨rfl, rfl⟩ (by as_aux_lemma => kernel_rfl) rfl
    (fun f fn hf hfn => by
      obtain rfl : f = 6 := Option.some.inj ((show Tryz.prog.funcNamed "loop.example/proxyframes/laws.FnConnectCut" = some 6 by kernel_rfl).symm.trans hf) |>.symm
      obtain rfl : fn = Tryz.f6 := (Option.some.inj (Tryz.func6.symm.trans hfn)).symm
      exact ⟨by kernel_rfl, fun j t ht => by
        rw [Tryz.params6] at ht
        have hm : t ∈ [22, 22] := by simpa using Array.mem_of_getElem? ht
        have hall : ([22, 22].all fun u => !Tryz.prog.wantsStandIn u) = true := by kernel_rfl
        exact (show Tryz.prog.wantsStandIn t = false by simpa using List.all_eq_true.1 hall t hm)⟩)
    (by as_aux_lemma => kernel_rfl)
end Go.Proofs.YtjnnmihbkieblaaGreatDoor.fnConnectCut

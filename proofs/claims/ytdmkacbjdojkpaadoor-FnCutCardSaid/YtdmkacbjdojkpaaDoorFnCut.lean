/-
  What is cut is joined again: true for every code. Conditions: none.
-/
import Derived.Test.YtdmkacbjdojkpaaDoorKitC
import Derived.Test.YtdmkacbjdojkpaaDoorLaid
import Derived.Test.YtdmkacbjdojkpaaDoorCutImpl
import Derived.Test.YtdmkacbjdojkpaaDoorCutMany
import Derived.Test.YtdmkacbjdojkpaaDoorCutLaw
import Derived.Test.YtdmkacbjdojkpaaDoorJoin
import Derived.Test.YtdmkacbjdojkpaaDoorJoinCut
namespace Go.Proofs.YtdmkacbjdojkpaaDoor.fnCut
open Go.ChangeShapes Go.WideShapes Go.ChangeAt Go.RowKit

theorem cut_names {k : Int} {qs : List Int} {nm : ByteArray} {p : Int} {ds : List Int} {n : Nat} {zs : List ((Int × Int × List Int × ByteArray × Int × List Int) × Value × Value)} (h : zs.map Prod.fst = cutL k qs nm p ds n) (hn : nm.size < 4294967281) : ∀ z ∈ zs, z.1.2.2.2.1.size < 4294967281 := by
  intro z hz
  obtain ⟨i, hi⟩ := List.getElem?_of_mem hz
  rw [cut_at h hi]
  exact hn

set_option maxRecDepth 100000 in
set_option maxHeartbeats 4000000 in
theorem walk (v : Value) (bs : List Int) (w : World) (hv : Came .u8 w w.heap.size v bs) (ht : Tabs w) : Calls Tryd.prog 3 #[v] w fun e w' => e = .returned (.bool true) ∧ Below w.heap.size w w' := by
  have hv0 := Lib.hid hv
  have T0 := Lib.hid ht
  clear ht
  obtain ⟨A, c, rfl, hc, hm, _, _⟩ := hv
  by_cases hl : 1048576 < bs.length
  · have hl' : (1048576 : Int) < (bs.length : Int) := by omega
    go_enter Tryd.func3, Tryd.ntmps3
    go_wp2_with fail
    go_ret
    exact ⟨rfl, Below.refl _ _⟩
  have hl' : (bs.length : Int) ≤ 1048576 := by omega
  clear hl
  go_enter Tryd.func3, Tryd.ntmps3
  go_wp2_with fail
  refine (DrawPacketCut_any _ bs w hv0.out).mono ?_
  rintro e w1 ⟨k, q, qs, nm, p, d, ds, s, rfl, o1, p1, lq, hs, ld, b1⟩
  obtain ⟨A1, c1, rfl, hc1, hm1, _⟩ := o1.form
  obtain ⟨D1, e1, rfl, hd1, hn1, _⟩ := p1.form
  have hns : nm.size < 4294967281 := by omega
  obtain ⟨V1, hV1⟩ : ∃ V1, w1.alloc (.cells #[.int .i64 k, .slice A1 qs.length c1, .string nm, .int .i64 p] 25) = V1 := ⟨_, rfl⟩
  have K1 : Hid (Blk V1 w1.heap.size 25 #[.int .i64 k, .slice A1 qs.length c1, .string nm, .int .i64 p]) := Lib.hid (by rw [← hV1]; exact Blk.new _ _ _)
  have I1 : Hid (Ints V1 0 (.slice A1 qs.length c1) qs) := Lib.hid (by rw [← hV1]; exact (o1.alloc _).ints.zero)
  have J1 : Hid (Ints V1 0 (.slice D1 ds.length e1) ds) := Lib.hid (by rw [← hV1]; exact (p1.alloc _).ints.zero)
  have B1 : Hid (Below w.heap.size w V1) := Lib.hid (by rw [← hV1]; exact b1.alloc b1.size _)
  have a0 : V1.cell? ⟨w1.heap.size, 0, none⟩ = some (.int .i64 k) := K1.out.cell 0
  have a1 : V1.cell? ⟨w1.heap.size, 1, none⟩ = some (.slice A1 qs.length c1) := K1.out.cell 1
  have a2 : V1.cell? ⟨w1.heap.size, 2, none⟩ = some (.string nm) := K1.out.cell 2
  have a3 : V1.cell? ⟨w1.heap.size, 3, none⟩ = some (.int .i64 p) := K1.out.cell 3
  clear o1 p1 b1
  go_wp2_with fail
  clear hV1 a0 a1 a2 a3
  refine (impl_PacketCut_any k _ nm p qs _ ds s _ I1.out J1.out hns).mono ?_
  rintro e w2 ⟨v2, zs2, rfl, f2, o2, r2, _, b2⟩
  obtain ⟨A2, c2, rfl, hc2, hm2, hA2⟩ := o2.form
  have F2 := Lib.hid f2
  have O2 := Lib.hid o2
  have R2 := Lib.hid r2
  have I2 := Lib.hid (I1.out.below b2)
  have J2 := Lib.hid (J1.out.below b2)
  have K2 := Lib.hid (K1.out.kept b2)
  have B2 := Lib.hid (B1.out.trans (b2.mono B1.out.size))
  have a0 : w2.cell? ⟨w1.heap.size, 0, none⟩ = some (.int .i64 k) := K2.out.cell 0
  have a1 : w2.cell? ⟨w1.heap.size, 1, none⟩ = some (.slice A1 qs.length c1) := K2.out.cell 1
  have a2 : w2.cell? ⟨w1.heap.size, 2, none⟩ = some (.string nm) := K2.out.cell 2
  have a3 : w2.cell? ⟨w1.heap.size, 3, none⟩ = some (.int .i64 p) := K2.out.cell 3
  clear f2 o2 r2 b2 hA2 K1 I1 J1 B1
  go_wp2_with fail
  refine (spec_PacketCut_any k _ nm p qs _ ds s _ I2.out J2.out hns).mono ?_
  rintro e w3 ⟨v3, zs3, rfl, f3, o3, r3, _, b3⟩
  obtain ⟨A3, c3, rfl, hc3, hm3, hA3⟩ := o3.form
  have F3 := Lib.hid f3
  have O23 := Lib.hid (O2.out.below b3)
  have R23 := Lib.hid (R2.out.below b3)
  have O3 := Lib.hid o3.pkts.zero
  have R3 := Lib.hid r3
  have I3 := Lib.hid (I2.out.below b3)
  have J3 := Lib.hid (J2.out.below b3)
  have K3 := Lib.hid (K2.out.kept b3)
  have B3 := Lib.hid (B2.out.trans (b3.mono B2.out.size))
  clear f3 o3 r3 b3 hA3 K2 I2 J2 B2 O2 R2 a0 a1 a2 a3
  cases ha : cutOk k qs nm p ds s
  · clear ha
    go_wp2_with fail
    refine (samePackets_same _ _ zs2 zs3 _ O23.out.pkts.zero O3.out R23.out.read R3.out.read (F2.out.trans F3.out.symm)).mono ?_
    rintro e w4 ⟨rfl, b4⟩
    have B4 := Lib.hid (B3.out.trans (b4.mono B3.out.size))
    have O24 := Lib.hid (O23.out.below b4)
    have O34 := Lib.hid (O3.out.below b4)
    have R24 := Lib.hid (R23.out.below b4)
    have R34 := Lib.hid (R3.out.below b4)
    clear b4 O23 O3 R23 R3
    go_wp2_with fail
    refine (samePackets_same _ _ zs2 zs3 _ O24.out.pkts.zero O34.out R24.out.read R34.out.read (F2.out.trans F3.out.symm)).mono ?_
    rintro e w5 ⟨rfl, b5⟩
    have B5 := Lib.hid (B4.out.trans (b5.mono B4.out.size))
    clear b5
    go_wp2_with fail
    go_ret
    exact ⟨rfl, B5.out⟩
  obtain ⟨n, hn1_, hn40, rfl⟩ : ∃ n : Nat, 1 ≤ n ∧ n ≤ 40 ∧ s = n := cut_size ha
  have HA := Lib.hid ha
  have HZ : Hid (zs2.map Prod.fst = cutL k qs nm p ds n) := Lib.hid (F2.out.trans (cutR_ok ha))
  have HM := Lib.hid (cut_len HZ.out)
  clear ha
  go_wp2_with fail
  refine (samePackets_same _ _ zs2 zs3 _ O23.out.pkts.zero O3.out R23.out.read R3.out.read (F2.out.trans F3.out.symm)).mono ?_
  rintro e w4 ⟨rfl, b4⟩
  have O4 := Lib.hid (O23.out.below b4)
  have R4 := Lib.hid (R23.out.below b4)
  have I4 := Lib.hid (I3.out.below b4)
  have J4 := Lib.hid (J3.out.below b4)
  have K4 := Lib.hid (K3.out.kept b4)
  have B4 := Lib.hid (B3.out.trans (b4.mono B3.out.size))
  clear b4 K3 I3 J3 B3 O23 R23 O3 R3
  have hNl : zs2.length ≤ 1048576 := by have := cutM_le (L := ds.length) hn1_; have := HM.out; omega
  have HJ := Lib.hid (cut_joined HA.out hn1_ (show ds.length ≤ 120 by omega))
  have T4 := Lib.hid (T0.out.below B4.out)
  have HNM := Lib.hid (cut_names HZ.out hns)
  go_wp2_with fail
  refine (impl_PacketJoin_any _ zs2 _ O4.out.pkts.zero R4.out.read HNM.out hNl T4.out).mono ?_
  rintro e w5 ⟨v5, rfl, o5, b5⟩
  rw [HZ.out, HJ.out.1]
  rw [HZ.out, HJ.out.2] at o5
  obtain ⟨A5, c5, rfl, _, _, _⟩ := o5.form
  have O5 := Lib.hid o5.ints.zero
  have J5 := Lib.hid (J4.out.below b5)
  have B5 := Lib.hid (B4.out.trans (b5.mono B4.out.size))
  clear b5 o5
  go_wp2_with fail
  refine (sameBytes_any _ _ ds ds _ O5.out J5.out).mono ?_
  rintro e w6 ⟨rfl, n6, rfl⟩
  rw [decide_eq_true rfl]
  go_wp2_with fail
  go_ret
  exact ⟨rfl, below_drewN B5.out n6⟩

set_option maxRecDepth 100000 in
theorem lifted (os : Os) (started : os.Started) (H : Type) (enc : TypeId × Value → H) :
    ReturnsInHanded {} Tryd.checked os 3 .any (fun w args => (Rows.fnCutSpec.pre enc Tryd.prog Tryd.f3 Rows.fnCutRow.domain false w args ∧ laidMetH Tryd.prog Rows.fnCutRow.laid w) ∧ sizedMet enc Tryd.prog Tryd.f3 (OpenSpec.ofChange Rows.fnCutSpec) false w args) (Rows.fnCutSpec.post enc Tryd.prog Tryd.f3 false true false false) := by
  refine returnsInHanded_of_change_and (C := Tryd.checked) (X := fun w _ => laidMetH Tryd.prog Rows.fnCutRow.laid w) (fun _ _ _ hh h => h.of_heap hh) Tryd.own started (by kernel_rfl) Tryd.func3
    (ChangeSpec.witness_shaped (enc := enc) (C := Tryd.checked) (os := os) (X := fun w _ => laidMetH Tryd.prog Rows.fnCutRow.laid w) false (World.laidAll Tryd.prog os Rows.fnCutRow.laid) #[.slice none 0 0] 8 (World.laidAll_os _ _ _)
      (World.shaped_of_ZipB (by kernel_rfl) (by kernel_rfl)) (by kernel_rfl) (by kernel_rfl) (by kernel_rfl)
      (by rw [MakeChecks.laidMetH_plain _ _ _ (by kernel_rfl)]; exact laidMet_laidAll _ (by kernel_rfl) (by kernel_rfl))) ?_
  intro W base args ds gs before hval0 hW hcnd _ hL _
  rw [MakeChecks.laidMetH_plain _ _ _ (by kernel_rfl)] at hL
  have hT : Tabs W := Tabs.of_laid _ rfl hL
  clear hL
  have hval : ∀ (j : Nat) t v, Tryd.f3.params[j]? = some t → args[j]? = some v → Value.okWide Tryd.prog W .any base t v := hval0
  have hW' := hW
  obtain ⟨p, q, hA0, hV, rfl, hfz, hnd⟩ := hW
  have hA : DataW.TrodAll enc Tryd.prog W 0 (fun _ => true) true Tryd.f3.params.toList args.toList ds p := hA0
  rw [Tryd.params3] at hA hval
  obtain ⟨v0, vs0, d0, ds0, p0, q0, hargs, rfl, rfl, h0, r0⟩ := trodAll_cons hA
  obtain ⟨rfl, rfl, rfl⟩ := trodAll_nil r0
  obtain rfl : args = #[v0] := by cases args; simp_all
  obtain ⟨rfl, rfl⟩ := trodVars_none hV
  obtain ⟨a0, len0, cap0, rfl⟩ := okWide_slice Tryd.underlying22 (hval 0 22 v0 rfl rfl)
  have k0 := h0
  have lt0 : ∀ x ∈ p0, x.block < W.heap.size := by obtain ⟨m, hm⟩ := k0; exact DataW.trod_lt m _ _ _ hm
  obtain ⟨z0, w0⟩ : ∃ zs, IsRow .u8 W a0 len0 cap0 zs := by
    obtain ⟨fuel, hf⟩ := h0
    rcases open_ints Tryd.underlying22 Tryd.underlying5 (by kernel_rfl) hf with ⟨hcs, _⟩ | ⟨x, l, c, zs, hcs, _, hl, hm, hz, _, hcell, hwz⟩
    · simp [Value.cells] at hcs
      obtain ⟨rfl, rfl, rfl⟩ := hcs
      exact ⟨[], .inl ⟨rfl, rfl, rfl, rfl⟩⟩
    · simp [Value.cells] at hcs
      obtain ⟨rfl, rfl, rfl⟩ := hcs
      exact ⟨zs, .inr ⟨_, rfl, hl, hm, by simpa using hz, hcell, hwz⟩⟩
  clear hA0 hval0
  refine (walk (.slice a0 len0 cap0) _ W ((Came.of_row w0).1) hT).mono fun e W' ⟨he, bel⟩ => ?_
  subst he
  exact ⟨_, rfl, _, _, _, [], _, [], hW', trodAll_mk1 (shut_bool Tryd.underlying4 _), (trodAll_cons_mk (Below.trod Tryd.laidOut (by kernel_rfl) (of_decide_eq_true (by kernel_rfl)) k0 bel lt0) trodAll_mk0), rfl, bel.frame _, fun h => by cases h⟩

theorem closed : joinedFacts Tryd.prog 3 Tryd.f3 Rows.fnCutSpec Rows.fnCutRow = true := by
  unfold joinedFacts
  repeat' (with_reducible refine band ?_ ?_)
  all_goals (with_reducible (first | exact Tryd.laidOut | exact kMaps | exact kStops | exact kKnobs | exact kHeard | exact kEnter | refine eqPlain ?_ | refine eqLift ?_ | refine eqMake ?_ | skip))
  all_goals (as_aux_lemma => kernel_rfl)

/-- The row -/
theorem row_holds : Rows.FnCutSaid :=
  OpenClaim.holds_of_wide 3 Tryd.f3 rfl rfl rfl rfl rfl rfl rfl ⟨rfl, rfl, rfl, rfl, rfl⟩ rfl rfl rfl rfl rfl (by as_aux_lemma => kernel_rfl) Tryd.func3 closed
    (of_decide_eq_true (by as_aux_lemma => kernel_rfl)) (by unfold Func.isWrapper; first | (rw [if_pos (by decide +kernel)]; kernel_rfl) | (rw [if_neg (by decide +kernel)]; exact ⟨rfl, rfl⟩))
    (fun os started H enc _ => lifted os started H enc)

set_option maxRecDepth 100000 in
/-- THE STATEMENT -/
theorem proved : Rows.FnCutCardSaid :=
  Claim7.holds_tied_plain_at .later [] [.data, .data, .data, .data, .pinned] true (true, "be973a5d57cf08116a7e6a47837bfd3f23ecac6c98cd868bd1c5ddfbe69aa512") false row_holds (fun _ h => by cases h) (by as_aux_lemma => kernel_rfl) (fun _ h => by cases h) fnCut_row_tie rfl ⟨rfl, rfl⟩ (by as_aux_lemma => kernel_rfl) rfl
    (fun f fn hf hfn => by
      obtain rfl : f = 3 := Option.some.inj ((show Tryd.prog.funcNamed "loop.example/proxyframes/laws.FnCut" = some 3 by kernel_rfl).symm.trans hf) |>.symm
      obtain rfl : fn = Tryd.f3 := (Option.some.inj (Tryd.func3.symm.trans hfn)).symm
      exact ⟨by kernel_rfl, fun j t ht => by
        rw [Tryd.params3] at ht
        have hm : t ∈ [22] := by simpa using Array.mem_of_getElem? ht
        have hall : ([22].all fun u => !Tryd.prog.wantsStandIn u) = true := by kernel_rfl
        exact (show Tryd.prog.wantsStandIn t = false by simpa using List.all_eq_true.1 hall t hm)⟩)
    (by as_aux_lemma => kernel_rfl)
end Go.Proofs.YtdmkacbjdojkpaaDoor.fnCut

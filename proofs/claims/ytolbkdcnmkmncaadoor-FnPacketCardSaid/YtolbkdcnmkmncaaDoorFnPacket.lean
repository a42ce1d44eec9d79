/-
  Bytes have their packet: true for every code. Conditions: none.
-/
import Derived.Test.YtolbkdcnmkmncaaDoorKitC
import Derived.Test.YtolbkdcnmkmncaaDoorDrawPk
import Derived.Test.YtolbkdcnmkmncaaDoorPkBack
import Derived.Test.YtolbkdcnmkmncaaDoorPkLaws2
namespace Go.Proofs.YtolbkdcnmkmncaaDoor.fnPacket
open Go.ChangeShapes Go.WideShapes Go.ChangeAt Go.RowKit

set_option maxRecDepth 100000 in
set_option maxHeartbeats 4000000 in
theorem walk (v : Value) (bs : List Int) (w : World) (hv : Came .u8 w w.heap.size v bs) : Calls Tryd.prog 8 #[v] w fun e w' => e = .returned (.bool true) ∧ Below w.heap.size w w' := by
  have hv0 := Lib.hid hv
  obtain ⟨A, c, rfl, hc, hm, _, _⟩ := hv
  by_cases hl : 1048576 < bs.length
  · have hl' : (1048576 : Int) < (bs.length : Int) := by omega
    go_enter Tryd.func8, Tryd.ntmps8
    go_wp2_with fail
    go_ret
    exact ⟨rfl, Below.refl _ _⟩
  have hl' : (bs.length : Int) ≤ 1048576 := by omega
  clear hl
  go_enter Tryd.func8, Tryd.ntmps8
  go_wp2_with fail
  refine (DrawPacketBytes_any _ bs w hv0.out).mono ?_
  rintro e w1 ⟨f, k, q, qs, nm, p, d, ds, rfl, o1, p1, l1, hs, ld, b1⟩
  obtain ⟨A1, c1, rfl, hc1, hm1, _⟩ := o1.form
  obtain ⟨D1, e1, rfl, hd1, hn1, _⟩ := p1.form
  have hns : nm.size < 4294967281 := by omega
  obtain ⟨V1, hV1⟩ : ∃ V1, w1.alloc (.cells #[.int .i64 f, .int .i64 k, .slice A1 qs.length c1, .string nm, .int .i64 p, .slice D1 ds.length e1] 41) = V1 := ⟨_, rfl⟩
  have K1 : Hid (Blk V1 w1.heap.size 41 #[.int .i64 f, .int .i64 k, .slice A1 qs.length c1, .string nm, .int .i64 p, .slice D1 ds.length e1]) := Lib.hid (by rw [← hV1]; exact Blk.new _ _ _)
  have I1 : Hid (Ints V1 0 (.slice A1 qs.length c1) qs) := Lib.hid (by rw [← hV1]; exact (o1.alloc _).ints.zero)
  have J1 : Hid (Ints V1 0 (.slice D1 ds.length e1) ds) := Lib.hid (by rw [← hV1]; exact (p1.alloc _).ints.zero)
  have B1 : Hid (Below w.heap.size w V1) := Lib.hid (by rw [← hV1]; exact b1.alloc b1.size _)
  have a0 : V1.cell? ⟨w1.heap.size, 0, none⟩ = some (.int .i64 f) := K1.out.cell 0
  have a1 : V1.cell? ⟨w1.heap.size, 1, none⟩ = some (.int .i64 k) := K1.out.cell 1
  have a2 : V1.cell? ⟨w1.heap.size, 2, none⟩ = some (.slice A1 qs.length c1) := K1.out.cell 2
  have a3 : V1.cell? ⟨w1.heap.size, 3, none⟩ = some (.string nm) := K1.out.cell 3
  have a4 : V1.cell? ⟨w1.heap.size, 4, none⟩ = some (.int .i64 p) := K1.out.cell 4
  have a5 : V1.cell? ⟨w1.heap.size, 5, none⟩ = some (.slice D1 ds.length e1) := K1.out.cell 5
  clear o1 p1 b1
  go_wp2_with fail
  clear hV1 a0 a1 a2 a3 a4 a5
  refine (impl_PacketBytes_any f k _ nm p qs _ ds _ I1.out J1.out hns).mono ?_
  rintro e w2 ⟨v2, rfl, o2, b2⟩
  obtain ⟨A2, c2, rfl, hc2, hm2, hA2⟩ := o2.form
  have O2 := Lib.hid o2
  have I2 := Lib.hid (I1.out.below b2)
  have J2 := Lib.hid (J1.out.below b2)
  have K2 := Lib.hid (K1.out.kept b2)
  have B2 := Lib.hid (B1.out.trans (b2.mono B1.out.size))
  have a0 : w2.cell? ⟨w1.heap.size, 0, none⟩ = some (.int .i64 f) := K2.out.cell 0
  have a1 : w2.cell? ⟨w1.heap.size, 1, none⟩ = some (.int .i64 k) := K2.out.cell 1
  have a2 : w2.cell? ⟨w1.heap.size, 2, none⟩ = some (.slice A1 qs.length c1) := K2.out.cell 2
  have a3 : w2.cell? ⟨w1.heap.size, 3, none⟩ = some (.string nm) := K2.out.cell 3
  have a4 : w2.cell? ⟨w1.heap.size, 4, none⟩ = some (.int .i64 p) := K2.out.cell 4
  have a5 : w2.cell? ⟨w1.heap.size, 5, none⟩ = some (.slice D1 ds.length e1) := K2.out.cell 5
  clear o2 b2 K1 I1 J1 B1
  go_wp2_with fail
  refine (spec_PacketBytes_any f k _ nm p qs _ ds _ I2.out J2.out hns).mono ?_
  rintro e w3 ⟨v3, rfl, o3, b3⟩
  have O23 := Lib.hid (O2.out.below b3)
  have O3 := Lib.hid o3.ints.zero
  have I3 := Lib.hid (I2.out.below b3)
  have J3 := Lib.hid (J2.out.below b3)
  have K3 := Lib.hid (K2.out.kept b3)
  have B3 := Lib.hid (B2.out.trans (b3.mono B2.out.size))
  clear o3 b3 K2 I2 J2 B2 O2 a0 a1 a2 a3 a4 a5
  cases ha : pkOk f k qs nm p ds
  · obtain ⟨L, hL⟩ : ∃ L, pkL f k qs nm p ds = L := ⟨_, rfl⟩
    rw [hL] at O23 O3 ⊢
    clear ha hL hA2
    go_wp2_with fail
    refine (sameBytes_any _ _ L L _ O23.out.ints.zero O3.out).mono ?_
    rintro e w4 ⟨rfl, n4, rfl⟩
    go_wp2_with fail
    refine (sameBytes_any _ _ L L _ (O23.out.ints.zero.drewN _) (O3.out.drewN _)).mono ?_
    rintro e w5 ⟨rfl, n5, rfl⟩
    go_wp2_with fail
    go_ret
    exact ⟨rfl, below_drewN B3.out _⟩
  have hlen := pk_len ha
  have E : Hid (∀ (u : Value) (W : World), Ints W 0 u ((pkL f k qs nm p ds)) → PpGave u W f k qs nm p ds true) := Lib.hid (fun u W hu => pk_gave ha u W hu)
  obtain ⟨L, hL⟩ : ∃ L, pkL f k qs nm p ds = L := ⟨_, rfl⟩
  rw [hL] at O23 O3 hlen hm2 hA2 E ⊢
  obtain ⟨hlen1, hlen2⟩ := hlen
  clear ha hL
  go_wp2_with fail
  refine (sameBytes_any _ _ L L _ O23.out.ints.zero O3.out).mono ?_
  rintro e w4 ⟨rfl, n4, rfl⟩
  rw [decide_eq_true rfl]
  obtain ⟨V, hV⟩ : ∃ V, w3.drewN n4 = V := ⟨_, rfl⟩
  have OV : Hid (Own V _ (.slice A2 L.length c2) L) := Lib.hid (by rw [← hV]; exact O23.out.drewN n4)
  have IV : Hid (Ints V 0 (.slice A1 qs.length c1) qs) := Lib.hid (by rw [← hV]; exact I3.out.drewN n4)
  have JV : Hid (Ints V 0 (.slice D1 ds.length e1) ds) := Lib.hid (by rw [← hV]; exact J3.out.drewN n4)
  have KV : Hid (Blk V w1.heap.size 41 #[.int .i64 f, .int .i64 k, .slice A1 qs.length c1, .string nm, .int .i64 p, .slice D1 ds.length e1]) := Lib.hid (by rw [← hV]; exact K3.out.drewN n4)
  have BV : Hid (Below w.heap.size w V) := Lib.hid (by rw [← hV]; exact below_drewN B3.out n4)
  rw [hV]
  clear hV O23 O3 I3 J3 K3 B3
  clear hA2
  go_wp2_with fail
  refine (E.out _ _ OV.out.ints.zero).mono ?_
  rintro e w5 ⟨q5, d5, rfl, o5, p5, b5⟩
  obtain ⟨A5, c5, rfl, _, _, _⟩ := o5.form
  obtain ⟨D5, e5, rfl, _, _, _⟩ := p5.form
  obtain ⟨V5, hV5⟩ : ∃ V5, w5.alloc (.cells #[.int .i64 f, .int .i64 k, .slice A5 qs.length c5, .string nm, .int .i64 p, .slice D5 ds.length e5] 41) = V5 := ⟨_, rfl⟩
  have K5 : Hid (Blk V5 w1.heap.size 41 #[.int .i64 f, .int .i64 k, .slice A1 qs.length c1, .string nm, .int .i64 p, .slice D1 ds.length e1]) := Lib.hid (by rw [← hV5]; exact (KV.out.kept b5).alloc _)
  have X5 : Hid (Blk V5 w5.heap.size 41 #[.int .i64 f, .int .i64 k, .slice A5 qs.length c5, .string nm, .int .i64 p, .slice D5 ds.length e5]) := Lib.hid (by rw [← hV5]; exact Blk.new _ _ _)
  have I5 : Hid (Ints V5 0 (.slice A1 qs.length c1) qs) := Lib.hid (by rw [← hV5]; exact (IV.out.below b5).alloc _)
  have J5 : Hid (Ints V5 0 (.slice D1 ds.length e1) ds) := Lib.hid (by rw [← hV5]; exact (JV.out.below b5).alloc _)
  have O5 : Hid (Ints V5 0 (.slice A5 qs.length c5) qs) := Lib.hid (by rw [← hV5]; exact (o5.alloc _).ints.zero)
  have P5 : Hid (Ints V5 0 (.slice D5 ds.length e5) ds) := Lib.hid (by rw [← hV5]; exact (p5.alloc _).ints.zero)
  have B5 : Hid (Below w.heap.size w V5) := Lib.hid (by
    rw [← hV5]
    have h := BV.out.trans (b5.mono BV.out.size)
    exact h.alloc h.size _)
  have a0 : V5.cell? ⟨w1.heap.size, 0, none⟩ = some (.int .i64 f) := K5.out.cell 0
  have a1 : V5.cell? ⟨w1.heap.size, 1, none⟩ = some (.int .i64 k) := K5.out.cell 1
  have a2 : V5.cell? ⟨w1.heap.size, 2, none⟩ = some (.slice A1 qs.length c1) := K5.out.cell 2
  have a3 : V5.cell? ⟨w1.heap.size, 3, none⟩ = some (.string nm) := K5.out.cell 3
  have a4 : V5.cell? ⟨w1.heap.size, 4, none⟩ = some (.int .i64 p) := K5.out.cell 4
  have a5 : V5.cell? ⟨w1.heap.size, 5, none⟩ = some (.slice D1 ds.length e1) := K5.out.cell 5
  have x0 : V5.cell? ⟨w5.heap.size, 0, none⟩ = some (.int .i64 f) := X5.out.cell 0
  have x1 : V5.cell? ⟨w5.heap.size, 1, none⟩ = some (.int .i64 k) := X5.out.cell 1
  have x2 : V5.cell? ⟨w5.heap.size, 2, none⟩ = some (.slice A5 qs.length c5) := X5.out.cell 2
  have x3 : V5.cell? ⟨w5.heap.size, 3, none⟩ = some (.string nm) := X5.out.cell 3
  have x4 : V5.cell? ⟨w5.heap.size, 4, none⟩ = some (.int .i64 p) := X5.out.cell 4
  have x5 : V5.cell? ⟨w5.heap.size, 5, none⟩ = some (.slice D5 ds.length e5) := X5.out.cell 5
  clear b5 o5 p5 KV IV JV OV
  go_wp2_with fail
  clear hV5 a0 a1 a2 a3 a4 a5 x0 x1 x2 x3 x4 x5
  refine (samePacket_same f k _ _ nm p _ _ qs ds _ O5.out I5.out P5.out J5.out).mono ?_
  rintro e w6 ⟨rfl, b6⟩
  have B6 := Lib.hid (B5.out.trans (b6.mono B5.out.size))
  clear b6
  go_wp2_with fail
  go_ret
  exact ⟨rfl, B6.out⟩
set_option maxRecDepth 100000 in
theorem lifted (os : Os) (started : os.Started) (H : Type) (enc : TypeId × Value → H) :
    ReturnsInHanded {} Tryd.checked os 8 .any (fun w args => (Rows.fnPacketSpec.pre enc Tryd.prog Tryd.f8 Rows.fnPacketRow.domain false w args ∧ laidMetH Tryd.prog Rows.fnPacketRow.laid w) ∧ sizedMet enc Tryd.prog Tryd.f8 (OpenSpec.ofChange Rows.fnPacketSpec) false w args) (Rows.fnPacketSpec.post enc Tryd.prog Tryd.f8 false true false false) := by
  refine returnsInHanded_of_change_and (C := Tryd.checked) (X := fun w _ => laidMetH Tryd.prog Rows.fnPacketRow.laid w) (fun _ _ _ hh h => h.of_heap hh) Tryd.own started (by kernel_rfl) Tryd.func8
    (ChangeSpec.witness_shaped (enc := enc) (C := Tryd.checked) (os := os) (X := fun w _ => laidMetH Tryd.prog Rows.fnPacketRow.laid w) false (World.laidAll Tryd.prog os Rows.fnPacketRow.laid) #[.slice none 0 0] 8 (World.laidAll_os _ _ _)
      (World.shaped_of_ZipB (by kernel_rfl) (by kernel_rfl)) (by kernel_rfl) (by kernel_rfl) (by kernel_rfl)
      (by rw [MakeChecks.laidMetH_plain _ _ _ (by kernel_rfl)]; exact laidMet_laidAll _ (by kernel_rfl) (by kernel_rfl))) ?_
  intro W base args ds gs before hval0 hW hcnd _ _ _
  have hval : ∀ (j : Nat) t v, Tryd.f8.params[j]? = some t → args[j]? = some v → Value.okWide Tryd.prog W .any base t v := hval0
  have hW' := hW
  obtain ⟨p, q, hA0, hV, rfl, hfz, hnd⟩ := hW
  have hA : DataW.TrodAll enc Tryd.prog W 0 (fun _ => true) true Tryd.f8.params.toList args.toList ds p := hA0
  rw [Tryd.params8] at hA hval
  obtain ⟨v0, vs0, d0, ds0, p0, q0, hargs, rfl, rfl, h0, r0⟩ := trodAll_cons hA
  obtain ⟨rfl, rfl, rfl⟩ := trodAll_nil r0
  obtain rfl : args = #[v0] := by cases args; simp_all
  obtain ⟨rfl, rfl⟩ := trodVars_none hV
  obtain ⟨a0, len0, cap0, rfl⟩ := okWide_slice Tryd.underlying22 (hval 0 22 v0 rfl rfl)
  have k0 := h0
  have lt0 : ∀ x ∈ p0, x.block < W.heap.size := by obtain ⟨m, hm⟩ := k0; exact DataW.trod_lt m _ _ _ hm
  obtain ⟨z0, w0⟩ : ∃ zs, IsRow .u8 W a0 len0 cap0 zs := by
    obtain ⟨fuel, hf⟩ := h0
    rcases open_ints Tryd.underlying22 Tryd.underlying5 (by kernel_rfl) hf with ⟨hcs, _⟩ | ⟨x, l, c, zs, hcs, _, hl, hm, hz, _, hcell, hwz⟩
    · simp [Value.cells] at hcs
      obtain ⟨rfl, rfl, rfl⟩ := hcs
      exact ⟨[], .inl ⟨rfl, rfl, rfl, rfl⟩⟩
    · simp [Value.cells] at hcs
      obtain ⟨rfl, rfl, rfl⟩ := hcs
      exact ⟨zs, .inr ⟨_, rfl, hl, hm, by simpa using hz, hcell, hwz⟩⟩
  clear hA0 hval0
  refine (walk (.slice a0 len0 cap0) _ W ((Came.of_row w0).1)).mono fun e W' ⟨he, bel⟩ => ?_
  subst he
  exact ⟨_, rfl, _, _, _, [], _, [], hW', trodAll_mk1 (shut_bool Tryd.underlying4 _), (trodAll_cons_mk (Below.trod Tryd.laidOut (by kernel_rfl) (of_decide_eq_true (by kernel_rfl)) k0 bel lt0) trodAll_mk0), rfl, bel.frame _, fun h => by cases h⟩

theorem closed : joinedFacts Tryd.prog 8 Tryd.f8 Rows.fnPacketSpec Rows.fnPacketRow = true := by
  unfold joinedFacts
  repeat' (with_reducible refine band ?_ ?_)
  all_goals (with_reducible (first | exact Tryd.laidOut | exact kMaps | exact kStops | exact kKnobs | exact kHeard | exact kEnter | refine eqPlain ?_ | refine eqLift ?_ | refine eqMake ?_ | skip))
  all_goals (as_aux_lemma => kernel_rfl)

/-- The row -/
theorem row_holds : Rows.FnPacketSaid :=
  OpenClaim.holds_of_wide 8 Tryd.f8 rfl rfl rfl rfl rfl rfl rfl ⟨rfl, rfl, rfl, rfl, rfl⟩ rfl rfl rfl rfl rfl (by as_aux_lemma => kernel_rfl) Tryd.func8 closed
    (of_decide_eq_true (by as_aux_lemma => kernel_rfl)) (by unfold Func.isWrapper; first | (rw [if_pos (by decide +kernel)]; kernel_rfl) | (rw [if_neg (by decide +kernel)]; exact ⟨rfl, rfl⟩))
    (fun os started H enc _ => lifted os started H enc)

set_option maxRecDepth 100000 in
/-- THE STATEMENT -/
theorem proved : Rows.FnPacketCardSaid :=
  Claim7.holds_tied_plain_at .later [] [.data, .pinned] true (true, "71cb2da78bc50782ad828c61a4547b3a4c8bb6d1fee47442386dd17ce480b237") false row_holds (fun _ h => by cases h) (by as_aux_lemma => kernel_rfl) (fun _ h => by cases h) fnPacket_row_tie rfl ⟨rfl, rfl⟩ (by as_aux_lemma => kernel_rfl) rfl
    (fun f fn hf hfn => by
      obtain rfl : f = 8 := Option.some.inj ((show Tryd.prog.funcNamed "loop.example/proxyframes/laws.FnPacket" = some 8 by kernel_rfl).symm.trans hf) |>.symm
      obtain rfl : fn = Tryd.f8 := (Option.some.inj (Tryd.func8.symm.trans hfn)).symm
      exact ⟨by kernel_rfl, fun j t ht => by
        rw [Tryd.params8] at ht
        have hm : t ∈ [22] := by simpa using Array.mem_of_getElem? ht
        have hall : ([22].all fun u => !Tryd.prog.wantsStandIn u) = true := by kernel_rfl
        exact (show Tryd.prog.wantsStandIn t = false by simpa using List.all_eq_true.1 hall t hm)⟩)
    (by as_aux_lemma => kernel_rfl)
end Go.Proofs.YtolbkdcnmkmncaaDoor.fnPacket

/-
  A packet is as long as its address and its data: true for every code. Conditions: none.
-/
import Derived.Test.YtolbkdcnmkmncaaDoorKitC
import Derived.Test.YtolbkdcnmkmncaaDoorDrawPk
import Derived.Test.YtolbkdcnmkmncaaDoorPkFrom
import Derived.Test.YtolbkdcnmkmncaaDoorBegin
namespace Go.Proofs.YtolbkdcnmkmncaaDoor.fnPacketSize
open Go.ChangeShapes Go.WideShapes Go.ChangeAt Go.RowKit

theorem ps_nums {n L : Nat} (h : 3 + n ≤ L) (hL : L ≤ 67) : IntKind.i64.wrap (3 + (n : Int)) = 3 + (n : Int) ∧ wrap64 (3 + (n : Int)) = 3 + (n : Int) ∧ (0 : Int) ≤ 3 + (n : Int) ∧ 3 + (n : Int) ≤ (L : Int) :=
  ⟨IntWalk.i64_in _ (by omega), IntWalk.wrap64_in _ (by omega), by omega, by omega⟩

set_option maxRecDepth 100000 in
set_option maxHeartbeats 4000000 in
theorem walk (v : Value) (bs : List Int) (w : World) (hv : Came .u8 w w.heap.size v bs) : Calls Tryd.prog 5 #[v] w fun e w' => e = .returned (.bool true) ∧ Below w.heap.size w w' := by
  have hv0 := Lib.hid hv
  obtain ⟨A, c, rfl, hc, hm, _, _⟩ := hv
  by_cases hl : 1048576 < bs.length
  · have hl' : (1048576 : Int) < (bs.length : Int) := by omega
    go_enter Tryd.func5, Tryd.ntmps5
    go_wp2_with fail
    go_ret
    exact ⟨rfl, Below.refl _ _⟩
  have hl' : (bs.length : Int) ≤ 1048576 := by omega
  clear hl
  go_enter Tryd.func5, Tryd.ntmps5
  go_wp2_with fail
  refine (DrawPacketBytes_any _ bs w hv0.out).mono ?_
  rintro e w1 ⟨f, k, q, qs, nm, p, d, ds, rfl, o1, p1, l1, hs, ld, b1⟩
  obtain ⟨A1, c1, rfl, hc1, hm1, _⟩ := o1.form
  obtain ⟨D1, e1, rfl, hd1, hn1, _⟩ := p1.form
  have hns : nm.size < 4294967281 := by omega
  obtain ⟨V1, hV1⟩ : ∃ V1, w1.alloc (.cells #[.int .i64 f, .int .i64 k, .slice A1 qs.length c1, .string nm, .int .i64 p, .slice D1 ds.length e1] 41) = V1 := ⟨_, rfl⟩
  have K1 : Hid (Blk V1 w1.heap.size 41 #[.int .i64 f, .int .i64 k, .slice A1 qs.length c1, .string nm, .int .i64 p, .slice D1 ds.length e1]) := Lib.hid (by rw [← hV1]; exact Blk.new _ _ _)
  have I1 : Hid (Ints V1 0 (.slice A1 qs.length c1) qs) := Lib.hid (by rw [← hV1]; exact (o1.alloc _).ints.zero)
  have J1 : Hid (Ints V1 0 (.slice D1 ds.length e1) ds) := Lib.hid (by rw [← hV1]; exact (p1.alloc _).ints.zero)
  have B1 : Hid (Below w.heap.size w V1) := Lib.hid (by rw [← hV1]; exact b1.alloc b1.size _)
  have a0 : V1.cell? ⟨w1.heap.size, 0, none⟩ = some (.int .i64 f) := K1.out.cell 0
  have a1 : V1.cell? ⟨w1.heap.size, 1, none⟩ = some (.int .i64 k) := K1.out.cell 1
  have a2 : V1.cell? ⟨w1.heap.size, 2, none⟩ = some (.slice A1 qs.length c1) := K1.out.cell 2
  have a3 : V1.cell? ⟨w1.heap.size, 3, none⟩ = some (.string nm) := K1.out.cell 3
  have a4 : V1.cell? ⟨w1.heap.size, 4, none⟩ = some (.int .i64 p) := K1.out.cell 4
  have a5 : V1.cell? ⟨w1.heap.size, 5, none⟩ = some (.slice D1 ds.length e1) := K1.out.cell 5
  clear o1 p1 b1
  go_wp2_with fail
  clear hV1 a0 a1 a2 a3 a4 a5
  refine (impl_PacketBytes_any f k _ nm p qs _ ds _ I1.out J1.out hns).mono ?_
  rintro e w2 ⟨v2, rfl, o2, b2⟩
  obtain ⟨A2, c2, rfl, hc2, hm2, hA2⟩ := o2.form
  have O2 := Lib.hid o2
  have I2 := Lib.hid (I1.out.below b2)
  have J2 := Lib.hid (J1.out.below b2)
  have K2 := Lib.hid (K1.out.kept b2)
  have B2 := Lib.hid (B1.out.trans (b2.mono B1.out.size))
  have a0 : w2.cell? ⟨w1.heap.size, 0, none⟩ = some (.int .i64 f) := K2.out.cell 0
  have a1 : w2.cell? ⟨w1.heap.size, 1, none⟩ = some (.int .i64 k) := K2.out.cell 1
  have a2 : w2.cell? ⟨w1.heap.size, 2, none⟩ = some (.slice A1 qs.length c1) := K2.out.cell 2
  have a3 : w2.cell? ⟨w1.heap.size, 3, none⟩ = some (.string nm) := K2.out.cell 3
  have a4 : w2.cell? ⟨w1.heap.size, 4, none⟩ = some (.int .i64 p) := K2.out.cell 4
  have a5 : w2.cell? ⟨w1.heap.size, 5, none⟩ = some (.slice D1 ds.length e1) := K2.out.cell 5
  clear o2 b2 K1 I1 J1 B1
  go_wp2_with fail
  refine (spec_PacketBytes_any f k _ nm p qs _ ds _ I2.out J2.out hns).mono ?_
  rintro e w3 ⟨v3, rfl, o3, b3⟩
  have O23 := Lib.hid (O2.out.below b3)
  have O3 := Lib.hid o3.ints.zero
  have I3 := Lib.hid (I2.out.below b3)
  have J3 := Lib.hid (J2.out.below b3)
  have K3 := Lib.hid (K2.out.kept b3)
  have B3 := Lib.hid (B2.out.trans (b3.mono B2.out.size))
  clear o3 b3 K2 I2 J2 B2 O2 a0 a1 a2 a3 a4 a5
  cases ha : pkOk f k qs nm p ds
  · obtain ⟨L, hL⟩ : ∃ L, pkL f k qs nm p ds = L := ⟨_, rfl⟩
    rw [hL] at O23 O3 ⊢
    clear ha hL hA2
    go_wp2_with fail
    refine (sameBytes_any _ _ L L _ O23.out.ints.zero O3.out).mono ?_
    rintro e w4 ⟨rfl, n4, rfl⟩
    go_wp2_with fail
    refine (sameBytes_any _ _ L L _ (O23.out.ints.zero.drewN _) (O3.out.drewN _)).mono ?_
    rintro e w5 ⟨rfl, n5, rfl⟩
    go_wp2_with fail
    go_ret
    exact ⟨rfl, below_drewN B3.out _⟩
  have hlen := pk_len ha
  have HOK : Hid (adOk k qs nm p = true) := Lib.hid ((pkOk_parts ha).2.1)
  have HBG : Hid (beginL ((pkL f k qs nm p ds)) [0, 0, f] = true) := Lib.hid (by rw [pkL_ok ha]; simp [beginL, pkB])
  have HDR : Hid (((pkL f k qs nm p ds)).drop 3 = adL k qs nm p ++ ds) := Lib.hid (by rw [pkL_ok ha, adL_ok (pkOk_parts ha).2.1]; rfl)
  have HDD : Hid (3 + (adL k qs nm p).length ≤ ((pkL f k qs nm p ds)).length ∧ ((pkL f k qs nm p ds)).drop (3 + (adL k qs nm p).length) = ds) := Lib.hid (by rw [pkL_ok ha, adL_ok (pkOk_parts ha).2.1]; exact pkB_end f k qs nm p ds)
  obtain ⟨L, hL⟩ : ∃ L, pkL f k qs nm p ds = L := ⟨_, rfl⟩
  rw [hL] at O23 O3 hlen hm2 hA2 HBG HDR HDD ⊢
  obtain ⟨hlen1, hlen2⟩ := hlen
  clear ha hL
  go_wp2_with fail
  refine (sameBytes_any _ _ L L _ O23.out.ints.zero O3.out).mono ?_
  rintro e w4 ⟨rfl, n4, rfl⟩
  rw [decide_eq_true rfl]
  obtain ⟨V, hV⟩ : ∃ V, w3.drewN n4 = V := ⟨_, rfl⟩
  have OV : Hid (Own V _ (.slice A2 L.length c2) L) := Lib.hid (by rw [← hV]; exact O23.out.drewN n4)
  have IV : Hid (Ints V 0 (.slice A1 qs.length c1) qs) := Lib.hid (by rw [← hV]; exact I3.out.drewN n4)
  have JV : Hid (Ints V 0 (.slice D1 ds.length e1) ds) := Lib.hid (by rw [← hV]; exact J3.out.drewN n4)
  have KV : Hid (Blk V w1.heap.size 41 #[.int .i64 f, .int .i64 k, .slice A1 qs.length c1, .string nm, .int .i64 p, .slice D1 ds.length e1]) := Lib.hid (by rw [← hV]; exact K3.out.drewN n4)
  have BV : Hid (Below w.heap.size w V) := Lib.hid (by rw [← hV]; exact below_drewN B3.out n4)
  rw [hV]
  clear hV O23 O3 I3 J3 K3 B3
  obtain ⟨b, rfl, hb1, hb2⟩ := hA2.resolve_left (fun h => by rw [h] at hlen1; simp at hlen1)
  obtain ⟨A3, c3, he, _, _, hA3⟩ := OV.out.ints.open_
  injection he with e1' e2' e3'
  subst e1'
  obtain ⟨b', o', e4', _, _, hs3⟩ := hA3.resolve_left (fun h => by rw [h] at hlen1; simp at hlen1)
  injection e4' with e4'
  injection e4' with e5' e6'
  subst e5' e6'

  obtain ⟨V3, hV3, j3⟩ := slice_end hs3 rfl (l := 3) (by omega) hm2 hc2
  have hV3' : ∀ W : World, (Instr.slice 23 (.slice (some ⟨b, 0, none⟩) L.length c2) (some (.int .i64 3)) none none).run Tryd.prog W = .ok V3 W := hV3
  rw [HDR.out] at j3
  obtain ⟨D, hD⟩ : ∃ D, adL k qs nm p = D := ⟨_, rfl⟩
  rw [hD] at j3 HDD
  have J3 := Lib.hid j3
  have ED := Lib.hid hD
  have hDl := HDD.out.1
  obtain ⟨V4, hV4, j4⟩ := slice_end hs3 rfl (l := 3 + D.length) (by omega) hm2 hc2
  rw [HDD.out.2] at j4
  simp only [Int.natCast_add, Int.cast_ofNat_Int] at hV4
  have hV4' : ∀ W : World, (Instr.slice 23 (.slice (some ⟨b, 0, none⟩) L.length c2) (some (.int .i64 (3 + (D.length : Int)))) none none).run Tryd.prog W = .ok V4 W := hV4
  have J4 := Lib.hid j4
  obtain ⟨w1_, w2_, hD0, hD1⟩ := ps_nums hDl hlen2
  have HBG2 : Hid (beginL (D ++ ds) D = true) := Lib.hid (by simp [beginL])
  have a0 : V.cell? ⟨w1.heap.size, 0, none⟩ = some (.int .i64 f) := KV.out.cell 0
  have a1 : V.cell? ⟨w1.heap.size, 1, none⟩ = some (.int .i64 k) := KV.out.cell 1
  have a2 : V.cell? ⟨w1.heap.size, 2, none⟩ = some (.slice A1 qs.length c1) := KV.out.cell 2
  have a3 : V.cell? ⟨w1.heap.size, 3, none⟩ = some (.string nm) := KV.out.cell 3
  have a4 : V.cell? ⟨w1.heap.size, 4, none⟩ = some (.int .i64 p) := KV.out.cell 4
  have a5 : V.cell? ⟨w1.heap.size, 5, none⟩ = some (.slice D1 ds.length e1) := KV.out.cell 5
  clear hV3 hV4 hs3 hA3 hA2 e2' e3' j3 j4 HDR HDD hD
  go_wp2_with fail
  refine (AddressBytes_any k _ nm p qs _ IV.out hns).mono ?_
  rintro e w5 ⟨v5, rfl, o5, b5⟩
  rw [HOK.out]
  rw [ED.out] at o5
  obtain ⟨A5, c5, rfl, hc5, hm5, _⟩ := o5.form
  have O25 := Lib.hid (OV.out.below b5).ints.zero
  have O5 := Lib.hid o5.ints.zero
  have J35 := Lib.hid (J3.out.below b5)
  have J45 := Lib.hid (J4.out.below b5)
  have JV5 := Lib.hid (JV.out.below b5)
  have K5 := Lib.hid (KV.out.kept b5)
  have B5 := Lib.hid (BV.out.trans (b5.mono BV.out.size))
  clear a0 a1 a2 a3 a4 a5
  have a0 : w5.cell? ⟨w1.heap.size, 0, none⟩ = some (.int .i64 f) := K5.out.cell 0
  have a5 : w5.cell? ⟨w1.heap.size, 5, none⟩ = some (.slice D1 ds.length e1) := K5.out.cell 5
  have CV : Hid (∀ W, Below w5.heap.size w5 W → W.cell? ⟨w1.heap.size, 0, none⟩ = some (.int .i64 f) ∧ W.cell? ⟨w1.heap.size, 5, none⟩ = some (.slice D1 ds.length e1) ∧ Below w5.heap.size w5 W) := Lib.hid (fun W hb => ⟨(K5.out.kept hb).cell 0, (K5.out.kept hb).cell 5, hb⟩)
  have hl3 : (3 : Int) ≤ (L.length : Int) := by omega
  clear o5 b5 OV IV JV KV BV J3 J4
  go_wp2_with fail
  go_region_held3 (fun W => W.cell? ⟨w1.heap.size, 0, none⟩ = some (.int .i64 f) ∧ W.cell? ⟨w1.heap.size, 5, none⟩ = some (.slice D1 ds.length e1) ∧ Below w5.heap.size w5 W)
    (first | with_reducible exact CV.out _ (below_drewN ((Below.refl _ w5).alloc (Nat.le_refl _) _) _) | with_reducible exact CV.out _ (below_drewN (below_drewN (below_drewN ((Below.refl _ w5).alloc (Nat.le_refl _) _).drew _) _) _) | with_reducible exact CV.out _ (below_drewN (below_drewN ((Below.refl _ w5).alloc (Nat.le_refl _) _).drew _) _) | with_reducible exact CV.out _ (below_drewN ((Below.refl _ w5).alloc (Nat.le_refl _) _).drew _) | with_reducible exact CV.out _ ((Below.refl _ w5).alloc (Nat.le_refl _) _).drew | with_reducible exact CV.out _ (Below.refl _ w5).drew)
    (first
      | (go_at_call_of 20 V3; refine (isBegin_any _ _ (D ++ ds) D _ ?_ ?_).mono ?_; (repeat (first | with_reducible exact J35.out | with_reducible refine Ints.drew ?_ | with_reducible refine Ints.drewN ?_ _ | with_reducible refine Ints.alloc ?_ _)); (repeat (first | with_reducible exact O5.out | with_reducible refine Ints.drew ?_ | with_reducible refine Ints.drewN ?_ _ | with_reducible refine Ints.alloc ?_ _)); rintro e w7 ⟨rfl, n7, rfl⟩; rw [HBG2.out])
      | (go_at_call 20; refine (isBegin_any _ _ L [0, 0, f] _ ?_ ?_).mono ?_; (repeat (first | with_reducible exact O25.out | (with_reducible refine Ints.lit_3 ?_; with_reducible rfl) | with_reducible refine Ints.drew ?_ | with_reducible refine Ints.drewN ?_ _ | with_reducible refine Ints.alloc ?_ _)); rintro e w6 ⟨rfl, n6, rfl⟩; rw [HBG.out])
      | (go_at_call 29; refine (sameBytes_any _ _ ds ds _ ?_ ?_).mono ?_; (repeat (first | with_reducible exact J45.out | with_reducible refine Ints.drew ?_ | with_reducible refine Ints.drewN ?_ _ | with_reducible refine Ints.alloc ?_ _)); (repeat (first | with_reducible exact JV5.out | with_reducible refine Ints.drew ?_ | with_reducible refine Ints.drewN ?_ _ | with_reducible refine Ints.alloc ?_ _)); rintro e w8 ⟨rfl, n8, rfl⟩; rw [decide_eq_true rfl]))
  all_goals
    rename_i hS
    have B9 := Lib.hid (B5.out.trans (hS.2.2.mono B5.out.size))
    clear hS
    go_wp2_with fail
    go_ret
    exact ⟨rfl, B9.out⟩
set_option maxRecDepth 100000 in
theorem lifted (os : Os) (started : os.Started) (H : Type) (enc : TypeId × Value → H) :
    ReturnsInHanded {} Tryd.checked os 5 .any (fun w args => (Rows.fnPacketSizeSpec.pre enc Tryd.prog Tryd.f5 Rows.fnPacketSizeRow.domain false w args ∧ laidMetH Tryd.prog Rows.fnPacketSizeRow.laid w) ∧ sizedMet enc Tryd.prog Tryd.f5 (OpenSpec.ofChange Rows.fnPacketSizeSpec) false w args) (Rows.fnPacketSizeSpec.post enc Tryd.prog Tryd.f5 false true false false) := by
  refine returnsInHanded_of_change_and (C := Tryd.checked) (X := fun w _ => laidMetH Tryd.prog Rows.fnPacketSizeRow.laid w) (fun _ _ _ hh h => h.of_heap hh) Tryd.own started (by kernel_rfl) Tryd.func5
    (ChangeSpec.witness_shaped (enc := enc) (C := Tryd.checked) (os := os) (X := fun w _ => laidMetH Tryd.prog Rows.fnPacketSizeRow.laid w) false (World.laidAll Tryd.prog os Rows.fnPacketSizeRow.laid) #[.slice none 0 0] 8 (World.laidAll_os _ _ _)
      (World.shaped_of_ZipB (by kernel_rfl) (by kernel_rfl)) (by kernel_rfl) (by kernel_rfl) (by kernel_rfl)
      (by rw [MakeChecks.laidMetH_plain _ _ _ (by kernel_rfl)]; exact laidMet_laidAll _ (by kernel_rfl) (by kernel_rfl))) ?_
  intro W base args ds gs before hval0 hW hcnd _ _ _
  have hval : ∀ (j : Nat) t v, Tryd.f5.params[j]? = some t → args[j]? = some v → Value.okWide Tryd.prog W .any base t v := hval0
  have hW' := hW
  obtain ⟨p, q, hA0, hV, rfl, hfz, hnd⟩ := hW
  have hA : DataW.TrodAll enc Tryd.prog W 0 (fun _ => true) true Tryd.f5.params.toList args.toList ds p := hA0
  rw [Tryd.params5] at hA hval
  obtain ⟨v0, vs0, d0, ds0, p0, q0, hargs, rfl, rfl, h0, r0⟩ := trodAll_cons hA
  obtain ⟨rfl, rfl, rfl⟩ := trodAll_nil r0
  obtain rfl : args = #[v0] := by cases args; simp_all
  obtain ⟨rfl, rfl⟩ := trodVars_none hV
  obtain ⟨a0, len0, cap0, rfl⟩ := okWide_slice Tryd.underlying22 (hval 0 22 v0 rfl rfl)
  have k0 := h0
  have lt0 : ∀ x ∈ p0, x.block < W.heap.size := by obtain ⟨m, hm⟩ := k0; exact DataW.trod_lt m _ _ _ hm
  obtain ⟨z0, w0⟩ : ∃ zs, IsRow .u8 W a0 len0 cap0 zs := by
    obtain ⟨fuel, hf⟩ := h0
    rcases open_ints Tryd.underlying22 Tryd.underlying5 (by kernel_rfl) hf with ⟨hcs, _⟩ | ⟨x, l, c, zs, hcs, _, hl, hm, hz, _, hcell, hwz⟩
    · simp [Value.cells] at hcs
      obtain ⟨rfl, rfl, rfl⟩ := hcs
      exact ⟨[], .inl ⟨rfl, rfl, rfl, rfl⟩⟩
    · simp [Value.cells] at hcs
      obtain ⟨rfl, rfl, rfl⟩ := hcs
      exact ⟨zs, .inr ⟨_, rfl, hl, hm, by simpa using hz, hcell, hwz⟩⟩
  clear hA0 hval0
  refine (walk (.slice a0 len0 cap0) _ W ((Came.of_row w0).1)).mono fun e W' ⟨he, bel⟩ => ?_
  subst he
  exact ⟨_, rfl, _, _, _, [], _, [], hW', trodAll_mk1 (shut_bool Tryd.underlying4 _), (trodAll_cons_mk (Below.trod Tryd.laidOut (by kernel_rfl) (of_decide_eq_true (by kernel_rfl)) k0 bel lt0) trodAll_mk0), rfl, bel.frame _, fun h => by cases h⟩

theorem closed : joinedFacts Tryd.prog 5 Tryd.f5 Rows.fnPacketSizeSpec Rows.fnPacketSizeRow = true := by
  unfold joinedFacts
  repeat' (with_reducible refine band ?_ ?_)
  all_goals (with_reducible (first | exact Tryd.laidOut | exact kMaps | exact kStops | exact kKnobs | exact kHeard | exact kEnter | refine eqPlain ?_ | refine eqLift ?_ | refine eqMake ?_ | skip))
  all_goals (as_aux_lemma => kernel_rfl)

/-- The row -/
theorem row_holds : Rows.FnPacketSizeSaid :=
  OpenClaim.holds_of_wide 5 Tryd.f5 rfl rfl rfl rfl rfl rfl rfl ⟨rfl, rfl, rfl, rfl, rfl⟩ rfl rfl rfl rfl rfl (by as_aux_lemma => kernel_rfl) Tryd.func5 closed
    (of_decide_eq_true (by as_aux_lemma => kernel_rfl)) (by unfold Func.isWrapper; first | (rw [if_pos (by decide +kernel)]; kernel_rfl) | (rw [if_neg (by decide +kernel)]; exact ⟨rfl, rfl⟩))
    (fun os started H enc _ => lifted os started H enc)

set_option maxRecDepth 100000 in
/-- THE STATEMENT -/
theorem proved : Rows.FnPacketSizeCardSaid :=
  Claim7.holds_tied_plain_at .later [] [.data, .pinned] true (true, "71cb2da78bc50782ad828c61a4547b3a4c8bb6d1fee47442386dd17ce480b237") false row_holds (fun _ h => by cases h) (by as_aux_lemma => kernel_rfl) (fun _ h => by cases h) fnPacketSize_row_tie rfl ⟨rfl, rfl⟩ (by as_aux_lemma => kernel_rfl) rfl
    (fun f fn hf hfn => by
      obtain rfl : f = 5 := Option.some.inj ((show Tryd.prog.funcNamed "loop.example/proxyframes/laws.FnPacketSize" = some 5 by kernel_rfl).symm.trans hf) |>.symm
      obtain rfl : fn = Tryd.f5 := (Option.some.inj (Tryd.func5.symm.trans hfn)).symm
      exact ⟨by kernel_rfl, fun j t ht => by
        rw [Tryd.params5] at ht
        have hm : t ∈ [22] := by simpa using Array.mem_of_getElem? ht
        have hall : ([22].all fun u => !Tryd.prog.wantsStandIn u) = true := by kernel_rfl
        exact (show Tryd.prog.wantsStandIn t = false by simpa using List.all_eq_true.1 hall t hm)⟩)
    (by as_aux_lemma => kernel_rfl)
end Go.Proofs.YtolbkdcnmkmncaaDoor.fnPacketSize

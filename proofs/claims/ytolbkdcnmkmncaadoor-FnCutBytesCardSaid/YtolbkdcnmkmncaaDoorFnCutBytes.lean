/-
  Each fragment is a packet: true for every code. Conditions: none.
-/
import Derived.Test.YtolbkdcnmkmncaaDoorKitC
import Derived.Test.YtolbkdcnmkmncaaDoorCutImpl
import Derived.Test.YtolbkdcnmkmncaaDoorCutMany
import Derived.Test.YtolbkdcnmkmncaaDoorCutLaw
import Derived.Test.YtolbkdcnmkmncaaDoorPkFrom
namespace Go.Proofs.YtolbkdcnmkmncaaDoor.fnCutBytes
open Go.ChangeShapes Go.WideShapes Go.ChangeAt Go.RowKit

set_option maxRecDepth 100000 in
set_option maxHeartbeats 4000000 in
theorem walk (v : Value) (bs : List Int) (w : World) (hv : Came .u8 w w.heap.size v bs) : Calls Tryd.prog 13 #[v] w fun e w' => e = .returned (.bool true) ∧ Below w.heap.size w w' := by
  have hv0 := Lib.hid hv
  obtain ⟨A, c, rfl, hc, hm, _, _⟩ := hv
  by_cases hl : 1048576 < bs.length
  · have hl' : (1048576 : Int) < (bs.length : Int) := by omega
    go_enter Tryd.func13, Tryd.ntmps13
    go_wp2_with fail
    go_ret
    exact ⟨rfl, Below.refl _ _⟩
  have hl' : (bs.length : Int) ≤ 1048576 := by omega
  clear hl
  go_enter Tryd.func13, Tryd.ntmps13
  go_wp2_with fail
  refine (DrawPacketCut_any _ bs w hv0.out).mono ?_
  rintro e w1 ⟨k, q, qs, nm, p, d, ds, s, rfl, o1, p1, lq, hs, ld, b1⟩
  obtain ⟨A1, c1, rfl, hc1, hm1, _⟩ := o1.form
  obtain ⟨D1, e1, rfl, hd1, hn1, _⟩ := p1.form
  have hns : nm.size < 4294967281 := by omega
  obtain ⟨V1, hV1⟩ : ∃ V1, w1.alloc (.cells #[.int .i64 k, .slice A1 qs.length c1, .string nm, .int .i64 p] 26) = V1 := ⟨_, rfl⟩
  have K1 : Hid (Blk V1 w1.heap.size 26 #[.int .i64 k, .slice A1 qs.length c1, .string nm, .int .i64 p]) := Lib.hid (by rw [← hV1]; exact Blk.new _ _ _)
  have I1 : Hid (Ints V1 0 (.slice A1 qs.length c1) qs) := Lib.hid (by rw [← hV1]; exact (o1.alloc _).ints.zero)
  have J1 : Hid (Ints V1 0 (.slice D1 ds.length e1) ds) := Lib.hid (by rw [← hV1]; exact (p1.alloc _).ints.zero)
  have B1 : Hid (Below w.heap.size w V1) := Lib.hid (by rw [← hV1]; exact b1.alloc b1.size _)
  have a0 : V1.cell? ⟨w1.heap.size, 0, none⟩ = some (.int .i64 k) := K1.out.cell 0
  have a1 : V1.cell? ⟨w1.heap.size, 1, none⟩ = some (.slice A1 qs.length c1) := K1.out.cell 1
  have a2 : V1.cell? ⟨w1.heap.size, 2, none⟩ = some (.string nm) := K1.out.cell 2
  have a3 : V1.cell? ⟨w1.heap.size, 3, none⟩ = some (.int .i64 p) := K1.out.cell 3
  clear o1 p1 b1
  go_wp2_with fail
  clear hV1 a0 a1 a2 a3
  refine (impl_PacketCut_any k _ nm p qs _ ds s _ I1.out J1.out hns).mono ?_
  rintro e w2 ⟨v2, zs2, rfl, f2, o2, r2, _, b2⟩
  obtain ⟨A2, c2, rfl, hc2, hm2, hA2⟩ := o2.form
  have F2 := Lib.hid f2
  have O2 := Lib.hid o2
  have R2 := Lib.hid r2
  have I2 := Lib.hid (I1.out.below b2)
  have J2 := Lib.hid (J1.out.below b2)
  have K2 := Lib.hid (K1.out.kept b2)
  have B2 := Lib.hid (B1.out.trans (b2.mono B1.out.size))
  have a0 : w2.cell? ⟨w1.heap.size, 0, none⟩ = some (.int .i64 k) := K2.out.cell 0
  have a1 : w2.cell? ⟨w1.heap.size, 1, none⟩ = some (.slice A1 qs.length c1) := K2.out.cell 1
  have a2 : w2.cell? ⟨w1.heap.size, 2, none⟩ = some (.string nm) := K2.out.cell 2
  have a3 : w2.cell? ⟨w1.heap.size, 3, none⟩ = some (.int .i64 p) := K2.out.cell 3
  clear f2 o2 r2 b2 hA2 K1 I1 J1 B1
  go_wp2_with fail
  refine (spec_PacketCut_any k _ nm p qs _ ds s _ I2.out J2.out hns).mono ?_
  rintro e w3 ⟨v3, zs3, rfl, f3, o3, r3, _, b3⟩
  obtain ⟨A3, c3, rfl, hc3, hm3, hA3⟩ := o3.form
  have F3 := Lib.hid f3
  have O23 := Lib.hid (O2.out.below b3)
  have R23 := Lib.hid (R2.out.below b3)
  have O3 := Lib.hid o3.pkts.zero
  have R3 := Lib.hid r3
  have I3 := Lib.hid (I2.out.below b3)
  have J3 := Lib.hid (J2.out.below b3)
  have K3 := Lib.hid (K2.out.kept b3)
  have B3 := Lib.hid (B2.out.trans (b3.mono B2.out.size))
  clear f3 o3 r3 b3 hA3 K2 I2 J2 B2 O2 R2 a0 a1 a2 a3
  cases ha : cutOk k qs nm p ds s
  · clear ha
    go_wp2_with fail
    refine (samePackets_same _ _ zs2 zs3 _ O23.out.pkts.zero O3.out R23.out.read R3.out.read (F2.out.trans F3.out.symm)).mono ?_
    rintro e w4 ⟨rfl, b4⟩
    have B4 := Lib.hid (B3.out.trans (b4.mono B3.out.size))
    have O24 := Lib.hid (O23.out.below b4)
    have O34 := Lib.hid (O3.out.below b4)
    have R24 := Lib.hid (R23.out.below b4)
    have R34 := Lib.hid (R3.out.below b4)
    clear b4 O23 O3 R23 R3
    go_wp2_with fail
    refine (samePackets_same _ _ zs2 zs3 _ O24.out.pkts.zero O34.out R24.out.read R34.out.read (F2.out.trans F3.out.symm)).mono ?_
    rintro e w5 ⟨rfl, b5⟩
    have B5 := Lib.hid (B4.out.trans (b5.mono B4.out.size))
    clear b5
    go_wp2_with fail
    go_ret
    exact ⟨rfl, B5.out⟩
  obtain ⟨n, hn1_, hn40, rfl⟩ : ∃ n : Nat, 1 ≤ n ∧ n ≤ 40 ∧ s = n := cut_size ha
  have HA := Lib.hid ha
  have HZ : Hid (zs2.map Prod.fst = cutL k qs nm p ds n) := Lib.hid (F2.out.trans (cutR_ok ha))
  have HM := Lib.hid (cut_len HZ.out)
  clear ha
  go_wp2_with fail
  refine (samePackets_same _ _ zs2 zs3 _ O23.out.pkts.zero O3.out R23.out.read R3.out.read (F2.out.trans F3.out.symm)).mono ?_
  rintro e w4 ⟨rfl, b4⟩
  have O4 := Lib.hid (O23.out.below b4)
  have R4 := Lib.hid (R23.out.below b4)
  have I4 := Lib.hid (I3.out.below b4)
  have J4 := Lib.hid (J3.out.below b4)
  have K4 := Lib.hid (K3.out.kept b4)
  have B4 := Lib.hid (B3.out.trans (b4.mono B3.out.size))
  clear b4 K3 I3 J3 B3 O23 R23 O3 R3
  have hNp : 1 ≤ zs2.length := by rw [HM.out]; exact cutM_pos hn1_
  have hNl : zs2.length ≤ 21 := by have := cutM_le (L := ds.length) hn1_; have := HM.out; omega
  obtain ⟨A5, c5, he5, _, _, hA5⟩ := O4.out.pkts.open_
  injection he5 with x5 _ _
  subst x5
  obtain ⟨b, o, rfl, _, hb5, hs5⟩ := hA5.resolve_left (fun h => by rw [h] at hNp; simp at hNp)
  have HS := Lib.hid hs5
  clear hA5 hs5
  obtain ⟨N, hN⟩ : ∃ N, zs2.length = N := ⟨_, rfl⟩
  have HN := Lib.hid hN
  rw [hN] at hNp hNl hm2 ⊢

  clear hN
  go_wp2_with fail
  go_loopw [10] (fun i wr => ∃ j : Nat, j ≤ N ∧ i = .int .i64 (j : Int) ∧ Hid (Below w4.heap.size w4 wr)) (fun i _ => N - (intOf i).toNat)
  case atStart => exact ⟨0, Nat.zero_le _, rfl, Lib.hid (Below.refl _ _)⟩
  case round =>
    obtain ⟨j, hj, rfl, HB⟩ := hrel
    by_cases hlt : j < N
    · have hlt' : (j : Int) < (N : Int) := by omega
      have hji0 : (0 : Int) ≤ (j : Int) := by omega
      obtain ⟨z, hz⟩ : ∃ z, zs2[j]? = some z := ⟨zs2[j]'(by rw [HN.out]; omega), List.getElem?_eq_getElem _⟩
      have hzf := cut_at HZ.out hz
      obtain ⟨hzq, hzd⟩ := R4.out z (List.mem_of_getElem? hz)
      have C := pk_cells (HS.out.below HB.out hb5) hz
      obtain ⟨z1, q5, d5⟩ := z
      dsimp only at hzf hzq hzd C
      subst hzf
      dsimp only at hzq hzd C
      obtain ⟨A6, c6, rfl, _, _, _⟩ := hzq.form
      obtain ⟨A7, c7, rfl, _, _, _⟩ := hzd.form
      have HZQ := Lib.hid (hzq.below HB.out)
      have HZD := Lib.hid (hzd.below HB.out)
      have HE := Lib.hid (pk_cells HS.out hz)
      obtain ⟨y0, y1, y2, y3, y4, y5⟩ := C
      clear hzq hzd hz
      have HPK := Lib.hid (cut_pk HA.out (i := j) (by rw [← HM.out, HN.out]; exact hlt))
      obtain ⟨F, hF⟩ : ∃ F, cutF n ds.length j = F := ⟨_, rfl⟩
      obtain ⟨E, hE⟩ : ∃ E, chunk n ds j = E := ⟨_, rfl⟩
      rw [hF, hE] at HPK HE
      rw [hF] at y0
      rw [hE] at y5 HZD
      clear hF hE
      go_wp2_with fail
      refine (impl_PacketBytes_any F k _ nm p qs _ E _ HZQ.out.ints.zero HZD.out.ints.zero hns).mono ?_
      rintro e w5 ⟨v5, rfl, o5, b5⟩
      rw [HPK.out]
      have O5 := Lib.hid o5.ints.zero
      have HB5 := Lib.hid (HB.out.trans (b5.mono HB.out.size))
      have HQ5 := Lib.hid (HZQ.out.below b5)
      have HD5 := Lib.hid (HZD.out.below b5)
      clear o5 b5 HZQ HZD y0 y1 y2 y3 y4 y5 HB
      go_wp2_with fail
      refine (pk_gave HPK.out _ _ O5.out).mono ?_
      rintro e w6 ⟨q6, d6, rfl, o6, p6, b6⟩
      obtain ⟨Q6, e6, rfl, _, _, _⟩ := o6.form
      obtain ⟨P6, f6, rfl, _, _, _⟩ := p6.form
      obtain ⟨V6, hV6⟩ : ∃ V6, w6.alloc (.cells #[.int .i64 F, .int .i64 k, .slice Q6 qs.length e6, .string nm, .int .i64 p, .slice P6 E.length f6] 41) = V6 := ⟨_, rfl⟩
      have X6 : Hid (Blk V6 w6.heap.size 41 #[.int .i64 F, .int .i64 k, .slice Q6 qs.length e6, .string nm, .int .i64 p, .slice P6 E.length f6]) := Lib.hid (by rw [← hV6]; exact Blk.new _ _ _)
      have HB6 : Hid (Below w4.heap.size w4 V6) := Lib.hid (by
        rw [← hV6]
        have h := HB5.out.trans (b6.mono HB5.out.size)
        exact h.alloc h.size _)
      have HQ6 : Hid (Ints V6 0 (.slice A6 qs.length c6) qs) := Lib.hid (by rw [← hV6]; exact ((HQ5.out.below b6).alloc _).ints.zero)
      have HD6 : Hid (Ints V6 0 (.slice A7 E.length c7) E) := Lib.hid (by rw [← hV6]; exact ((HD5.out.below b6).alloc _).ints.zero)
      have Q6_ : Hid (Ints V6 0 (.slice Q6 qs.length e6) qs) := Lib.hid (by rw [← hV6]; exact (o6.alloc _).ints.zero)
      have D6_ : Hid (Ints V6 0 (.slice P6 E.length f6) E) := Lib.hid (by rw [← hV6]; exact (p6.alloc _).ints.zero)
      have CV : Hid (∀ W, Below V6.heap.size V6 W → W.cell? ⟨w6.heap.size, 0, none⟩ = some (.int .i64 F) ∧ W.cell? ⟨w6.heap.size, 1, none⟩ = some (.int .i64 k) ∧ W.cell? ⟨w6.heap.size, 2, none⟩ = some (.slice Q6 qs.length e6) ∧ W.cell? ⟨w6.heap.size, 3, none⟩ = some (.string nm) ∧ W.cell? ⟨w6.heap.size, 4, none⟩ = some (.int .i64 p) ∧ W.cell? ⟨w6.heap.size, 5, none⟩ = some (.slice P6 E.length f6) ∧ W.cell? ⟨b, o + j * 6, none⟩ = some (.int .i64 F) ∧ W.cell? ⟨b, o + j * 6 + 1, none⟩ = some (.int .i64 k) ∧ W.cell? ⟨b, o + j * 6 + 2, none⟩ = some (.slice A6 qs.length c6) ∧ W.cell? ⟨b, o + j * 6 + 3, none⟩ = some (.string nm) ∧ W.cell? ⟨b, o + j * 6 + 4, none⟩ = some (.int .i64 p) ∧ W.cell? ⟨b, o + j * 6 + 5, none⟩ = some (.slice A7 E.length c7) ∧ Below V6.heap.size V6 W) := Lib.hid (fun W hb => by
        have hbw := HB6.out.trans (hb.mono HB6.out.size)
        have C' := HE.out
        obtain ⟨u0, u1, u2, u3, u4, u5⟩ := C'
        have hc := fun (i : Nat) => (hbw.cell (p := ⟨b, i, none⟩) hb5)
        have K' := X6.out.kept hb
        exact ⟨K'.cell 0, K'.cell 1, K'.cell 2, K'.cell 3, K'.cell 4, K'.cell 5, (hc _).trans u0, (hc _).trans u1, (hc _).trans u2, (hc _).trans u3, (hc _).trans u4, (hc _).trans u5, hb⟩)
      clear b6 o6 p6 HB5 HQ5 HD5 HE O5
      go_wp2_with fail
      clear hV6
      go_region_held3 (fun W => W.cell? ⟨w6.heap.size, 0, none⟩ = some (.int .i64 F) ∧ W.cell? ⟨w6.heap.size, 1, none⟩ = some (.int .i64 k) ∧ W.cell? ⟨w6.heap.size, 2, none⟩ = some (.slice Q6 qs.length e6) ∧ W.cell? ⟨w6.heap.size, 3, none⟩ = some (.string nm) ∧ W.cell? ⟨w6.heap.size, 4, none⟩ = some (.int .i64 p) ∧ W.cell? ⟨w6.heap.size, 5, none⟩ = some (.slice P6 E.length f6) ∧ W.cell? ⟨b, o + j * 6, none⟩ = some (.int .i64 F) ∧ W.cell? ⟨b, o + j * 6 + 1, none⟩ = some (.int .i64 k) ∧ W.cell? ⟨b, o + j * 6 + 2, none⟩ = some (.slice A6 qs.length c6) ∧ W.cell? ⟨b, o + j * 6 + 3, none⟩ = some (.string nm) ∧ W.cell? ⟨b, o + j * 6 + 4, none⟩ = some (.int .i64 p) ∧ W.cell? ⟨b, o + j * 6 + 5, none⟩ = some (.slice A7 E.length c7) ∧ Below V6.heap.size V6 W)
        (first | with_reducible exact CV.out _ BW7.out | with_reducible exact CV.out _ (Below.refl _ V6).drew)
        (first | (go_at_call 42; refine (samePacket_same F k _ _ nm p _ _ qs E _ Q6_.out.drew HQ6.out.drew D6_.out.drew HD6.out.drew).mono ?_; rintro e w7 ⟨rfl, b7⟩; have BW7 : Hid (Below V6.heap.size V6 w7) := Lib.hid ((Below.refl _ V6).drew.trans b7); clear b7) | fail)
      all_goals
        rename_i hS
        have hbw := hS.2.2.2.2.2.2.2.2.2.2.2.2
        have HB7 := Lib.hid (HB6.out.trans (hbw.mono HB6.out.size))
        clear hS hbw
        go_wp2_with fail
        go_roundw
        case rel => exact ⟨j + 1, by omega, by go_num, HB7⟩
        case measure => simp [intOf]; omega
    · have hge : ¬ (j : Int) < (N : Int) := by omega
      clear hlt
      go_wp2_with fail
      go_ret
      exact ⟨rfl, B4.out.trans (HB.out.mono B4.out.size)⟩
set_option maxRecDepth 100000 in
theorem lifted (os : Os) (started : os.Started) (H : Type) (enc : TypeId × Value → H) :
    ReturnsInHanded {} Tryd.checked os 13 .any (fun w args => (Rows.fnCutBytesSpec.pre enc Tryd.prog Tryd.f13 Rows.fnCutBytesRow.domain false w args ∧ laidMetH Tryd.prog Rows.fnCutBytesRow.laid w) ∧ sizedMet enc Tryd.prog Tryd.f13 (OpenSpec.ofChange Rows.fnCutBytesSpec) false w args) (Rows.fnCutBytesSpec.post enc Tryd.prog Tryd.f13 false true false false) := by
  refine returnsInHanded_of_change_and (C := Tryd.checked) (X := fun w _ => laidMetH Tryd.prog Rows.fnCutBytesRow.laid w) (fun _ _ _ hh h => h.of_heap hh) Tryd.own started (by kernel_rfl) Tryd.func13
    (ChangeSpec.witness_shaped (enc := enc) (C := Tryd.checked) (os := os) (X := fun w _ => laidMetH Tryd.prog Rows.fnCutBytesRow.laid w) false (World.laidAll Tryd.prog os Rows.fnCutBytesRow.laid) #[.slice none 0 0] 8 (World.laidAll_os _ _ _)
      (World.shaped_of_ZipB (by kernel_rfl) (by kernel_rfl)) (by kernel_rfl) (by kernel_rfl) (by kernel_rfl)
      (by rw [MakeChecks.laidMetH_plain _ _ _ (by kernel_rfl)]; exact laidMet_laidAll _ (by kernel_rfl) (by kernel_rfl))) ?_
  intro W base args ds gs before hval0 hW hcnd _ _ _
  have hval : ∀ (j : Nat) t v, Tryd.f13.params[j]? = some t → args[j]? = some v → Value.okWide Tryd.prog W .any base t v := hval0
  have hW' := hW
  obtain ⟨p, q, hA0, hV, rfl, hfz, hnd⟩ := hW
  have hA : DataW.TrodAll enc Tryd.prog W 0 (fun _ => true) true Tryd.f13.params.toList args.toList ds p := hA0
  rw [Tryd.params13] at hA hval
  obtain ⟨v0, vs0, d0, ds0, p0, q0, hargs, rfl, rfl, h0, r0⟩ := trodAll_cons hA
  obtain ⟨rfl, rfl, rfl⟩ := trodAll_nil r0
  obtain rfl : args = #[v0] := by cases args; simp_all
  obtain ⟨rfl, rfl⟩ := trodVars_none hV
  obtain ⟨a0, len0, cap0, rfl⟩ := okWide_slice Tryd.underlying22 (hval 0 22 v0 rfl rfl)
  have k0 := h0
  have lt0 : ∀ x ∈ p0, x.block < W.heap.size := by obtain ⟨m, hm⟩ := k0; exact DataW.trod_lt m _ _ _ hm
  obtain ⟨z0, w0⟩ : ∃ zs, IsRow .u8 W a0 len0 cap0 zs := by
    obtain ⟨fuel, hf⟩ := h0
    rcases open_ints Tryd.underlying22 Tryd.underlying5 (by kernel_rfl) hf with ⟨hcs, _⟩ | ⟨x, l, c, zs, hcs, _, hl, hm, hz, _, hcell, hwz⟩
    · simp [Value.cells] at hcs
      obtain ⟨rfl, rfl, rfl⟩ := hcs
      exact ⟨[], .inl ⟨rfl, rfl, rfl, rfl⟩⟩
    · simp [Value.cells] at hcs
      obtain ⟨rfl, rfl, rfl⟩ := hcs
      exact ⟨zs, .inr ⟨_, rfl, hl, hm, by simpa using hz, hcell, hwz⟩⟩
  clear hA0 hval0
  refine (walk (.slice a0 len0 cap0) _ W ((Came.of_row w0).1)).mono fun e W' ⟨he, bel⟩ => ?_
  subst he
  exact ⟨_, rfl, _, _, _, [], _, [], hW', trodAll_mk1 (shut_bool Tryd.underlying4 _), (trodAll_cons_mk (Below.trod Tryd.laidOut (by kernel_rfl) (of_decide_eq_true (by kernel_rfl)) k0 bel lt0) trodAll_mk0), rfl, bel.frame _, fun h => by cases h⟩

theorem closed : joinedFacts Tryd.prog 13 Tryd.f13 Rows.fnCutBytesSpec Rows.fnCutBytesRow = true := by
  unfold joinedFacts
  repeat' (with_reducible refine band ?_ ?_)
  all_goals (with_reducible (first | exact Tryd.laidOut | exact kMaps | exact kStops | exact kKnobs | exact kHeard | exact kEnter | refine eqPlain ?_ | refine eqLift ?_ | refine eqMake ?_ | skip))
  all_goals (as_aux_lemma => kernel_rfl)

/-- The row -/
theorem row_holds : Rows.FnCutBytesSaid :=
  OpenClaim.holds_of_wide 13 Tryd.f13 rfl rfl rfl rfl rfl rfl rfl ⟨rfl, rfl, rfl, rfl, rfl⟩ rfl rfl rfl rfl rfl (by as_aux_lemma => kernel_rfl) Tryd.func13 closed
    (of_decide_eq_true (by as_aux_lemma => kernel_rfl)) (by unfold Func.isWrapper; first | (rw [if_pos (by decide +kernel)]; kernel_rfl) | (rw [if_neg (by decide +kernel)]; exact ⟨rfl, rfl⟩))
    (fun os started H enc _ => lifted os started H enc)

set_option maxRecDepth 100000 in
/-- THE STATEMENT -/
theorem proved : Rows.FnCutBytesCardSaid :=
  Claim7.holds_tied_plain_at .later [] [.data, .pinned] true (true, "71cb2da78bc50782ad828c61a4547b3a4c8bb6d1fee47442386dd17ce480b237") false row_holds (fun _ h => by cases h) (by as_aux_lemma => kernel_rfl) (fun _ h => by cases h) fnCutBytes_row_tie rfl ⟨rfl, rfl⟩ (by as_aux_lemma => kernel_rfl) rfl
    (fun f fn hf hfn => by
      obtain rfl : f = 13 := Option.some.inj ((show Tryd.prog.funcNamed "loop.example/proxyframes/laws.FnCutBytes" = some 13 by kernel_rfl).symm.trans hf) |>.symm
      obtain rfl : fn = Tryd.f13 := (Option.some.inj (Tryd.func13.symm.trans hfn)).symm
      exact ⟨by kernel_rfl, fun j t ht => by
        rw [Tryd.params13] at ht
        have hm : t ∈ [22] := by simpa using Array.mem_of_getElem? ht
        have hall : ([22].all fun u => !Tryd.prog.wantsStandIn u) = true := by kernel_rfl
        exact (show Tryd.prog.wantsStandIn t = false by simpa using List.all_eq_true.1 hall t hm)⟩)
    (by as_aux_lemma => kernel_rfl)
end Go.Proofs.YtolbkdcnmkmncaaDoor.fnCutBytes

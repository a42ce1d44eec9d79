/-
  PacketJoin of the program returns what the reference's returns, for all arguments, in memory that it shares with nothing. Conditions: none.
-/
import Derived.Test.YtpcflkdeoafpeaaDoorKitC
import Derived.Test.YtpcflkdeoafpeaaDoorLaid
import Derived.Test.YtpcflkdeoafpeaaDoorJoin
import Derived.Test.YtpcflkdeoafpeaaDoorJoinS
import Derived.Test.YtpcflkdeoafpeaaDoorPksAll
namespace Go.Proofs.YtpcflkdeoafpeaaDoor.fnExactPacketJoin
open Go.ChangeShapes Go.WideShapes Go.ChangeAt Go.RowKit

theorem names_of {zs ys : List ((Int × Int × List Int × ByteArray × Int × List Int) × Value × Value)} (h : ys.map Prod.fst = zs.map Prod.fst) (ht : zs.length + tot zs ≤ 1048576) : (∀ z ∈ ys, z.1.2.2.2.1.size < 4294967281) ∧ ys.length ≤ 1048576 := by
  have hl := congrArg List.length h
  simp only [List.length_map] at hl
  refine ⟨fun z hz => ?_, by omega⟩
  have hm : z.1 ∈ zs.map Prod.fst := by
    rw [← h]
    exact List.mem_map.2 ⟨z, hz, rfl⟩
  obtain ⟨y, hy, he⟩ := List.mem_map.1 hm
  have := tot_mem hy
  rw [← he]
  omega
theorem nk_tot : ∀ (zs : List ((Int × Int × List Int × ByteArray × Int × List Int) × Value × Value)) (k : Int), nkEs k (zs.map Prod.fst) ≤ k + 4 * zs.length + tot zs
  | [], k => by simp [nkEs, tot]
  | z :: r, k => by
    have h := nk_tot r (nkE k z.1)
    simp only [List.map_cons, nkEs, List.length_cons, tot]
    unfold nkE at h ⊢
    omega
theorem jnL_len (es : List (Int × Int × List Int × ByteArray × Int × List Int)) : (jnL es).length ≤ 120 := by
  unfold jnL
  split
  · rename_i h
    unfold jnOk at h
    simp only [Bool.and_eq_true, decide_eq_true_eq] at h
    exact h.2
  · simp
/-- markPacketS beside a row of integers. -/
theorem mark_beside (v : Value) (zs : List ((Int × Int × List Int × ByteArray × Int × List Int) × Value × Value)) (base : Nat) (k0 : Int) (w : World) (hv : OwnK w base v zs) (hr : RowsK w base zs) (ha : ApartK zs) (hb : base ≤ w.heap.size) (h0 : 0 ≤ k0) (h1 : nkEs k0 (zs.map Prod.fst) ≤ 1099511627776) (u : Value) (us : List Int) (bu : Nat) (hu : Own w bu u us) (hl : ∀ i, v.ownBlock = some i → i < bu) (hz : ∀ z ∈ zs, (∀ i, z.2.1.ownBlock = some i → i < bu) ∧ (∀ i, z.2.2.ownBlock = some i → i < bu)) :
    Calls Tryd.prog 13 #[v, .int .i64 k0] w fun e w' => e = .returned (.int .i64 (nkEs k0 (zs.map Prod.fst))) ∧ Own w' bu u us ∧ Below base w w' := by
  cases hx : u.ownBlock with
  | none => exact (markPacketS_any v zs base k0 w hv hr ha hb h0 h1).mono fun e w' ⟨h2, ys, _, _, _, h3⟩ => ⟨h2, hu.stay (fun i hi => by rw [hx] at hi; cases hi), h3⟩
  | some X =>
    have hlt := World.ownsRow.lt hu X hx
    refine (markPacketS_keep v zs base k0 w hv hr ha hb h0 h1 X hlt.2 (fun e => by have := hl X e; omega) (fun p hp => ?_)).mono fun e w' ⟨h2, ys, _, _, _, h3, h4⟩ => ⟨h2, hu.stay (fun i hi => by rw [hx] at hi; injection hi with hi; rw [← hi]; exact h4), h3⟩
    obtain ⟨z, hz', rfl⟩ := List.mem_map.1 hp
    have h5 := hz z hz'
    exact ⟨fun e => by have := h5.1 X e; omega, fun e => by have := h5.2 X e; omega⟩

set_option maxRecDepth 100000 in
set_option maxHeartbeats 8000000 in
theorem walk (v : Value) (zs : List ((Int × Int × List Int × ByteArray × Int × List Int) × Value × Value)) (w : World) (hv : CameK w w.heap.size v zs) (ht : Tabs w) : Calls Tryd.prog 4 #[v] w fun e w' => e = .returned (.bool true) ∧ Below w.heap.size w w' := by
  have HV := Lib.hid hv
  have HT := Lib.hid ht
  obtain ⟨A, c, rfl, _, _, _, _⟩ := hv
  clear ht
  go_enter Tryd.func4, Tryd.ntmps4
  go_wp2_with fail
  refine (szPacketS_any _ zs w.heap.size w HV.out (Nat.le_refl _)).mono ?_
  rintro e w1 ⟨r, rfl, hr0, hr1, hr2, b1⟩
  have B1 := Lib.hid b1
  clear b1
  by_cases hr : r < 0
  · clear hr2
    go_wp2_with fail
    go_ret
    exact ⟨rfl, B1.out⟩
  have hr' : 0 ≤ r := by omega
  have HTOT := Lib.hid (hr2 hr')
  clear hr2 hr
  obtain ⟨L, hL⟩ : ∃ L, jnL (zs.map Prod.fst) = L := ⟨_, rfl⟩
  obtain ⟨ok, hok⟩ : ∃ ok, jnOk (zs.map Prod.fst) = ok := ⟨_, rfl⟩
  have hLz : L.length ≤ 1048576 := by
    have h := jnL_len (zs.map Prod.fst)
    rw [hL] at h
    omega
  have HI : Hid (∀ u ys (W : World), Pkts W 0 u ys → ReadK W ys → ys.map Prod.fst = zs.map Prod.fst → Tabs W → Calls Tryd.prog 6 #[u] W fun e w' => Gave W L ok e w') := Lib.hid fun u ys W h1 h2 h3 h4 => by
    have h := impl_PacketJoin_any u ys W h1 h2 (names_of h3 HTOT.out).1 (names_of h3 HTOT.out).2 h4
    rw [h3, hL, hok] at h
    exact h
  have HS : Hid (∀ u ys (W : World), Pkts W 0 u ys → ReadK W ys → ys.map Prod.fst = zs.map Prod.fst → Calls Tryd.prog 7 #[u] W fun e w' => Gave W L ok e w') := Lib.hid fun u ys W h1 h2 h3 => by
    have h := spec_PacketJoin_any u ys W h1 h2 (names_of h3 HTOT.out).1 (names_of h3 HTOT.out).2
    rw [h3, hL, hok] at h
    exact h
  have HP : Hid (∀ W : World, Below w.heap.size w W → Calls Tryd.prog 10 #[.slice A zs.length c] W fun e w' => MadeKs W (zs.map Prod.fst) e w') := Lib.hid fun W hb => toPacketS_any _ zs w.heap.size W (HV.out.below hb) hb.size HTOT.out
  have NK : Hid (nkEs 1 (zs.map Prod.fst) ≤ 1099511627776 ∧ 1 ≤ nkEs 1 (zs.map Prod.fst)) := Lib.hid ⟨by have h := nk_tot zs 1; have := HTOT.out; omega, nkEs_le _ _⟩
  obtain ⟨K9, hK9⟩ : ∃ K9, nkEs 1 (zs.map Prod.fst) = K9 := ⟨_, rfl⟩
  have HK9 := Lib.hid hK9
  have hK0 : ¬ K9 < 0 := by rw [← hK9]; have := NK.out; omega
  clear hL hok hK9
  go_wp2_with fail
  refine (HP.out _ B1.out).mono ?_
  rintro e w2 ⟨v2, ys2, rfl, f2, o2, r2, _, b2⟩
  have B2 := Lib.hid (B1.out.trans (b2.mono B1.out.size))
  have X2 := Lib.hid (HS.out _ _ _ o2.pkts.zero r2.read f2)
  clear f2 o2 r2 b2 B1
  go_wp2_with fail
  refine X2.out.mono ?_
  rintro e w3 ⟨v3, rfl, o3, b3⟩
  obtain ⟨A3, c3, rfl, _, _, _⟩ := o3.form
  have LT3 := Lib.hid (fun i (hi : (Value.slice A3 L.length c3).ownBlock = some i) => (World.ownsRow.lt o3 i hi).2)
  have W3 := Lib.hid o3
  have B3 := Lib.hid (B2.out.trans (b3.mono B2.out.size))
  clear o3 b3 X2 B2
  go_wp2_with fail
  refine (HP.out _ B3.out).mono ?_
  rintro e w4 ⟨v4, ys4, rfl, f4, o4, r4, p4, b4⟩
  have P4 := Lib.hid p4
  have F4 := Lib.hid f4
  have O4 := Lib.hid o4
  have R4 := Lib.hid r4
  have W4 := Lib.hid (W3.out.below b4)
  have B4 := Lib.hid (B3.out.trans (b4.mono B3.out.size))
  have hb34 : w3.heap.size ≤ w4.heap.size := b4.size
  have LV : Hid (∀ i, v4.ownBlock = some i → i < w4.heap.size) := Lib.hid (fun i hi => (World.ownsRow.lt o4 i hi).2)
  have LZ4 : Hid (∀ z ∈ ys4, (∀ i, z.2.1.ownBlock = some i → i < w4.heap.size) ∧ (∀ i, z.2.2.ownBlock = some i → i < w4.heap.size)) := Lib.hid (fun z hz => ⟨fun i hi => (World.ownsRow.lt (r4 z hz).1 i hi).2, fun i hi => (World.ownsRow.lt (r4 z hz).2 i hi).2⟩)
  have X4 := Lib.hid (HI.out _ _ _ o4.pkts.zero r4.read f4 (HT.out.below B4.out))
  obtain ⟨A4, c4, rfl, _, _, _⟩ := o4.form
  clear f4 o4 r4 p4 b4 W3
  go_wp2_with fail
  refine X4.out.mono ?_
  rintro e w5 ⟨v5, rfl, o5, b5⟩
  obtain ⟨A5, c5, rfl, _, _, _⟩ := o5.form
  have G5 := Lib.hid o5
  have P35 := Lib.hid (W4.out.ahead o5)
  have W5 := Lib.hid (W4.out.below b5)
  have O5 := Lib.hid (O4.out.below b5)
  have R5 := Lib.hid (R4.out.below b5)
  have B5 := Lib.hid (B4.out.trans (b5.mono B4.out.size))
  have hb45 : w4.heap.size ≤ w5.heap.size := b5.size
  have hbw4 : w.heap.size ≤ w4.heap.size := B4.out.size
  have hbw3 : w.heap.size ≤ w3.heap.size := B3.out.size
  clear o5 b5 X4 O4 R4 W4 B4
  go_wp2_with fail
  refine (eqIntS_any _ _ L L _ G5.out.ints.zero W5.out.ints.zero).mono ?_
  rintro e w6 ⟨rfl, n6, rfl⟩
  rw [decide_eq_true rfl]
  have B6 := Lib.hid (below_drewN B5.out n6)
  go_wp2_with fail
  refine (HP.out _ B6.out).mono ?_
  rintro e w7 ⟨v7, ys7, rfl, f7, o7, r7, _, b7⟩
  have G7 := Lib.hid ((G5.out.drewN n6).below b7)
  have W7 := Lib.hid ((W5.out.drewN n6).below b7)
  have O7 := Lib.hid (OwnK.below (w := w5.drewN n6) O5.out b7)
  have R7 := Lib.hid (RowsK.below (w := w5.drewN n6) R5.out b7)
  have B7 := Lib.hid (B6.out.trans (b7.mono B6.out.size))
  have hb37 : w3.heap.size ≤ w7.heap.size := Nat.le_trans (Nat.le_trans hb34 hb45) b7.size
  have X7 := Lib.hid (eqPacketS_same _ _ ys4 ys7 _ O7.out.pkts.zero o7.pkts.zero R7.out.read r7.read (F4.out.trans f7.symm))
  obtain ⟨A7, c7, rfl, _, _, _⟩ := o7.form
  clear f7 o7 r7 b7 G5 W5 O5 R5 B5 B6
  go_wp2_with fail
  refine X7.out.mono ?_
  rintro e w8 ⟨rfl, b8⟩
  have G8 := Lib.hid (G7.out.below b8)
  have W8 := Lib.hid (W7.out.below b8)
  have O8 := Lib.hid (O7.out.below b8)
  have R8 := Lib.hid (R7.out.below b8)
  have B8 := Lib.hid (B7.out.trans (b8.mono B7.out.size))
  have hb38 : w3.heap.size ≤ w8.heap.size := Nat.le_trans hb37 b8.size
  clear b8 X7 G7 W7 O7 R7 B7
  have X8 := mark_beside _ ys4 w3.heap.size 1 _ O8.out R8.out P4.out hb38 (by omega) (by rw [F4.out]; exact NK.out.1) _ L _ G8.out LV.out LZ4.out
  rw [F4.out, HK9.out] at X8
  have HX8 := Lib.hid X8
  clear X8
  go_wp2_with fail
  refine HX8.out.mono ?_
  rintro e w9 ⟨rfl, g9, b9⟩
  have G9 := Lib.hid g9
  have W9 := Lib.hid (W8.out.stay (fun i hi => b9.block i (LT3.out i hi)))
  have B9 := Lib.hid (B8.out.trans (b9.mono hbw3))
  clear g9 b9 HX8 G8 W8 O8 R8 B8
  go_wp2_with fail
  refine (eqIntS_any _ _ L L _ G9.out.ints.zero W9.out.ints.zero).mono ?_
  rintro e w10 ⟨rfl, n10, rfl⟩
  rw [decide_eq_true rfl]
  go_wp2_with fail
  refine (markIntS_any _ L _ 1 _ (G9.out.ints.drewN n10) (by omega) (by omega) (by omega)).mono ?_
  rintro e w11 ⟨rfl, i11, g11⟩
  have I11 := Lib.hid i11
  have W11 := Lib.hid ((W9.out.drewN n10).keep g11 P35.out)
  have B11 := Lib.hid ((below_drewN B9.out n10).trans (below_own ((G9.out.drewN n10).more hbw4) g11 (show _ ≤ _ from B9.out.size)))
  have hk11 : ¬ (1 + (L.length : Int) < 0) := by omega
  clear i11 g11 G9 W9 B9
  go_wp2_with fail
  refine (heldIntS_any _ 1 L.length _ I11.out.zero (by omega) (by omega) (by omega)).mono ?_
  rintro e w12 ⟨rfl, rfl⟩
  go_wp2_with fail
  refine (HP.out _ B11.out).mono ?_
  rintro e w13 ⟨v13, ys13, rfl, f13, o13, r13, _, b13⟩
  have I13 := Lib.hid (I11.out.below b13)
  have W13 := Lib.hid (W11.out.below b13)
  have B13 := Lib.hid (B11.out.trans (b13.mono B11.out.size))
  have X13 := Lib.hid (HI.out _ _ _ o13.pkts.zero r13.read f13 (HT.out.below B13.out))
  clear f13 o13 r13 b13 I11 W11 B11
  go_wp2_with fail
  refine X13.out.mono ?_
  rintro e w14 ⟨v14, rfl, o14, b14⟩
  obtain ⟨A14, c14, rfl, _, _, _⟩ := o14.form
  have G14 := Lib.hid o14.ints.zero
  have I14 := Lib.hid (I13.out.below b14)
  have W14 := Lib.hid (W13.out.below b14)
  have B14 := Lib.hid (B13.out.trans (b14.mono B13.out.size))
  clear o14 b14 X13 I13 W13 B13
  go_wp2_with fail
  refine (eqIntS_any _ _ L L _ G14.out W14.out.ints.zero).mono ?_
  rintro e w15 ⟨rfl, n15, rfl⟩
  rw [decide_eq_true rfl]
  go_wp2_with fail
  refine (heldIntS_any _ 1 L.length _ (I14.out.zero.drewN n15) (by omega) (by omega) (by omega)).mono ?_
  rintro e w16 ⟨rfl, rfl⟩
  go_wp2_with fail
  go_ret
  exact ⟨by simp, below_drewN B14.out n15⟩

set_option maxRecDepth 100000 in
theorem lifted (os : Os) (started : os.Started) (H : Type) (enc : TypeId × Value → H) :
    ReturnsInHanded {} Tryd.checked os 4 .any (fun w args => (Rows.fnExactPacketJoinSpec.pre enc Tryd.prog Tryd.f4 Rows.fnExactPacketJoinRow.domain false w args ∧ laidMetH Tryd.prog Rows.fnExactPacketJoinRow.laid w) ∧ sizedMet enc Tryd.prog Tryd.f4 (OpenSpec.ofChange Rows.fnExactPacketJoinSpec) false w args) (Rows.fnExactPacketJoinSpec.post enc Tryd.prog Tryd.f4 false true false false) := by
  refine returnsInHanded_of_change_and (C := Tryd.checked) (X := fun w _ => laidMetH Tryd.prog Rows.fnExactPacketJoinRow.laid w) (fun _ _ _ hh h => h.of_heap hh) Tryd.own started (by kernel_rfl) Tryd.func4
    (ChangeSpec.witness_shaped (enc := enc) (C := Tryd.checked) (os := os) (X := fun w _ => laidMetH Tryd.prog Rows.fnExactPacketJoinRow.laid w) false (World.laidAll Tryd.prog os Rows.fnExactPacketJoinRow.laid) #[.slice none 0 0] 8 (World.laidAll_os _ _ _)
      (World.shaped_of_ZipB (by kernel_rfl) (by kernel_rfl)) (by kernel_rfl) (by kernel_rfl) (by kernel_rfl)
      (by rw [MakeChecks.laidMetH_plain _ _ _ (by kernel_rfl)]; exact laidMet_laidAll _ (by kernel_rfl) (by kernel_rfl))) ?_
  intro W base args ds gs before hval0 hW hcnd _ hL _
  rw [MakeChecks.laidMetH_plain _ _ _ (by kernel_rfl)] at hL
  have hT : Tabs W := Tabs.of_laid _ rfl hL
  clear hL
  have hval : ∀ (j : Nat) t v, Tryd.f4.params[j]? = some t → args[j]? = some v → Value.okWide Tryd.prog W .any base t v := hval0
  have hW' := hW
  obtain ⟨p, q, hA0, hV, rfl, hfz, hnd⟩ := hW
  have hA : DataW.TrodAll enc Tryd.prog W 0 (fun _ => true) true Tryd.f4.params.toList args.toList ds p := hA0
  rw [Tryd.params4] at hA hval
  obtain ⟨v0, vs0, d0, ds0, p0, q0, hargs, rfl, rfl, h0, r0⟩ := trodAll_cons hA
  obtain ⟨rfl, rfl, rfl⟩ := trodAll_nil r0
  obtain rfl : args = #[v0] := by cases args; simp_all
  obtain ⟨rfl, rfl⟩ := trodVars_none hV
  have k0 := h0
  have lt0 : ∀ x ∈ p0, x.block < W.heap.size := by obtain ⟨m, hm⟩ := k0; exact DataW.trod_lt m _ _ _ hm
  obtain ⟨a0, ha0⟩ := packets_of (hval 0 34 v0 rfl rfl) h0
  clear hA0 hval0
  refine (walk _ a0 W (ha0) hT).mono fun e W' ⟨he, bel⟩ => ?_
  subst he
  exact ⟨_, rfl, _, _, _, [], _, [], hW', trodAll_mk1 (shut_bool Tryd.underlying4 _), (trodAll_cons_mk (Below.trod Tryd.laidOut (by kernel_rfl) (of_decide_eq_true (by kernel_rfl)) k0 bel lt0) trodAll_mk0), rfl, bel.frame _, fun h => by cases h⟩

theorem closed : joinedFacts Tryd.prog 4 Tryd.f4 Rows.fnExactPacketJoinSpec Rows.fnExactPacketJoinRow = true := by
  unfold joinedFacts
  repeat' (with_reducible refine band ?_ ?_)
  all_goals (with_reducible (first | exact Tryd.laidOut | exact kMaps | exact kStops | exact kKnobs | exact kHeard | exact kEnter | refine eqPlain ?_ | refine eqLift ?_ | refine eqMake ?_ | skip))
  all_goals (as_aux_lemma => kernel_rfl)

/-- The row -/
theorem row_holds : Rows.FnExactPacketJoinSaid :=
  OpenClaim.holds_of_wide 4 Tryd.f4 rfl rfl rfl rfl rfl rfl rfl ⟨rfl, rfl, rfl, rfl, rfl⟩ rfl rfl rfl rfl rfl (by as_aux_lemma => kernel_rfl) Tryd.func4 closed
    (of_decide_eq_true (by as_aux_lemma => kernel_rfl)) (by unfold Func.isWrapper; first | (rw [if_pos (by decide +kernel)]; kernel_rfl) | (rw [if_neg (by decide +kernel)]; exact ⟨rfl, rfl⟩))
    (fun os started H enc _ => lifted os started H enc)

set_option maxRecDepth 100000 in
/-- THE STATEMENT -/
theorem proved : Rows.FnExactPacketJoinCardSaid :=
  Claim7.holds_tied_plain_at .later [] [.data, .data, .data, .data, .pinned] true (true, "3a864b4685e6cea88bebef4558091b545bd973ee43f7e9a4cfd9b8a469ac3e59") false row_holds (fun _ h => by cases h) (by as_aux_lemma => kernel_rfl) (fun _ h => by cases h) fnExactPacketJoin_row_tie rfl ⟨rfl, rfl⟩ (by as_aux_lemma => kernel_rfl) rfl
    (fun f fn hf hfn => by
      obtain rfl : f = 4 := Option.some.inj ((show Tryd.prog.funcNamed "loop.example/proxyframes/laws.FnExactPacketJoin" = some 4 by kernel_rfl).symm.trans hf) |>.symm
      obtain rfl : fn = Tryd.f4 := (Option.some.inj (Tryd.func4.symm.trans hfn)).symm
      exact ⟨by kernel_rfl, fun j t ht => by
        rw [Tryd.params4] at ht
        have hm : t ∈ [34] := by simpa using Array.mem_of_getElem? ht
        have hall : ([34].all fun u => !Tryd.prog.wantsStandIn u) = true := by kernel_rfl
        exact (show Tryd.prog.wantsStandIn t = false by simpa using List.all_eq_true.1 hall t hm)⟩)
    (by as_aux_lemma => kernel_rfl)
end Go.Proofs.YtpcflkdeoafpeaaDoor.fnExactPacketJoin

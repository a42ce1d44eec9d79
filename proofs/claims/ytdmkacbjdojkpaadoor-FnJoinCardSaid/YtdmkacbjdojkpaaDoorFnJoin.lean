/-
  A part of what is joined is not joined: true for every code. Conditions: none.
-/
import Derived.Test.YtdmkacbjdojkpaaDoorKitC
import Derived.Test.YtdmkacbjdojkpaaDoorLaid
import Derived.Test.YtdmkacbjdojkpaaDoorJoin
import Derived.Test.YtdmkacbjdojkpaaDoorJoinS
import Derived.Test.YtdmkacbjdojkpaaDoorDrawJoin
namespace Go.Proofs.YtdmkacbjdojkpaaDoor.fnJoin
open Go.ChangeShapes Go.WideShapes Go.ChangeAt Go.RowKit

theorem at_frag {es : List (Int × Int × List Int × ByteArray × Int × List Int)} {i : Nat} (h : jnOk es = true) (hi : i < es.length) (h2 : 2 ≤ es.length) : (es.getD i noPk).1 = wantE es.length i := by
  unfold jnOk at h
  simp only [Bool.and_eq_true] at h
  have h3 := jnTo_at h.1.2 hi
  unfold jnAt at h3
  simp only [Bool.and_eq_true] at h3
  have h4 := h3.2
  unfold fragW at h4
  simp only [Bool.or_eq_true, Bool.and_eq_true, decide_eq_true_eq] at h4
  rcases h4 with h4 | h4
  · exact h4
  · omega
theorem at_not {es : List (Int × Int × List Int × ByteArray × Int × List Int)} {i : Nat} (h1 : (es.getD i noPk).1 ≠ wantE es.length i) (h0 : (es.getD i noPk).1 ≠ 0) : jnAt es i = false := by
  unfold jnAt fragW
  simp only [decide_eq_false h1, decide_eq_false h0, Bool.false_and, Bool.or_false, Bool.and_false]
theorem join_tail {es : List (Int × Int × List Int × ByteArray × Int × List Int)} (h : jnOk es = true) (h2 : 2 ≤ es.length) : jnOk (es.drop 1) = false := by
  have e : (es.drop 1).getD 0 noPk = es.getD 1 noPk := by simp [List.getD]
  have hf := at_frag (i := 1) h (by omega) h2
  have hl : (es.drop 1).length = es.length - 1 := List.length_drop
  refine jnOk_not (j := 0) (by omega) (at_not ?_ ?_)
  · rw [e, hf, hl]
    unfold wantE
    split <;> split <;> omega
  · rw [e, hf]
    unfold wantE
    split <;> omega
theorem join_front {es : List (Int × Int × List Int × ByteArray × Int × List Int)} (h : jnOk es = true) (h2 : 2 ≤ es.length) : jnOk (es.take (es.length - 1)) = false := by
  have e : (es.take (es.length - 1)).getD (es.length - 2) noPk = es.getD (es.length - 2) noPk := by
    simp only [List.getD]
    rw [List.getElem?_take_of_lt (by omega)]
  have hf := at_frag (i := es.length - 2) h (by omega) h2
  have hl : (es.take (es.length - 1)).length = es.length - 1 := by rw [List.length_take]; omega
  refine jnOk_not (j := es.length - 2) (by omega) (at_not ?_ ?_)
  · rw [e, hf, hl]
    unfold wantE
    split <;> split <;> omega
  · rw [e, hf]
    unfold wantE
    split <;> omega
theorem pk_tail_ {w : World} {b o n c : Nat} {zs : List ((Int × Int × List Int × ByteArray × Int × List Int) × Value × Value)} (hs : Seg w 38 b o (kv zs)) (hc : n ≤ c) (hm : c ≤ 9223372036854775807) (hn : 1 ≤ n) (hz : zs.length = n := by rfl) : Pkts w 0 (.slice (some ⟨b, o + 6, none⟩) (n - 1) (c - 1)) (zs.drop 1) := by
  have hk : kv (zs.drop 1) = ((kv zs).drop 6).take ((zs.length - 1) * 6) := by
    match zs, hz with
    | [], hz => simp at hz; omega
    | z :: r, _ =>
      have : kv (z :: r) = pkc z ++ kv r := by simp [kv]
      rw [this, List.drop_append_of_le_length (by simp [pkc])]
      simp [pkc]
      rw [List.take_of_length_le (by rw [kv_length]; exact Nat.le_refl _)]
  have hp := hs.part (k := 6) (m := (zs.length - 1) * 6)
  rw [← hk] at hp
  exact ⟨by rw [kv_length], _, _, by rw [List.length_drop, hz], by rw [List.length_drop]; omega, by unfold maxLen; omega, .inr ⟨b, o + 6, rfl, Nat.zero_le _, hp⟩⟩
theorem kv_take : ∀ (zs : List ((Int × Int × List Int × ByteArray × Int × List Int) × Value × Value)) (m : Nat), kv (zs.take m) = (kv zs).take (m * 6)
  | [], m => by simp [kv]
  | z :: r, 0 => by simp [kv]
  | z :: r, m + 1 => by
    have h1 : kv (z :: r) = pkc z ++ kv r := by simp [kv]
    have h2 : kv (z :: r.take m) = pkc z ++ kv (r.take m) := by simp [kv]
    have h3 : (pkc z).length = 6 := by simp [pkc]
    rw [List.take_succ_cons, h1, h2, kv_take r m, List.take_append, h3, show (m + 1) * 6 - 6 = m * 6 by omega, List.take_of_length_le (l := pkc z) (by omega)]
theorem pk_front_ {w : World} {b o n c : Nat} {zs : List ((Int × Int × List Int × ByteArray × Int × List Int) × Value × Value)} (hs : Seg w 38 b o (kv zs)) (hc : n ≤ c) (hm : c ≤ 9223372036854775807) (hz : zs.length = n := by rfl) : Pkts w 0 (.slice (some ⟨b, o, none⟩) (n - 1) c) (zs.take (n - 1)) := by
  have hp := hs.part (k := 0) (m := (n - 1) * 6)
  rw [List.drop_zero, ← kv_take] at hp
  exact ⟨by rw [kv_length], _, _, by rw [List.length_take]; congr 1; omega, by rw [List.length_take]; omega, by unfold maxLen; omega, .inr ⟨b, o, rfl, Nat.zero_le _, hp⟩⟩

set_option maxRecDepth 100000 in
set_option maxHeartbeats 4000000 in
theorem walk (v : Value) (bs : List Int) (w : World) (hv : Came .u8 w w.heap.size v bs) (ht : Tabs w) : Calls Tryd.prog 4 #[v] w fun e w' => e = .returned (.bool true) ∧ Below w.heap.size w w' := by
  have hv0 := Lib.hid hv
  have T0 := Lib.hid ht
  clear ht
  obtain ⟨A, c, rfl, hc, hm, _, _⟩ := hv
  by_cases hl : 1048576 < bs.length
  · have hl' : (1048576 : Int) < (bs.length : Int) := by omega
    go_enter Tryd.func4, Tryd.ntmps4
    go_wp2_with fail
    go_ret
    exact ⟨rfl, Below.refl _ _⟩
  have hl' : (bs.length : Int) ≤ 1048576 := by omega
  clear hl
  go_enter Tryd.func4, Tryd.ntmps4
  go_wp2_with fail
  refine (DrawPacketJoin_any _ bs w hv0.out).mono ?_
  rintro e w1 ⟨v1, zs, rfl, p1, r1, nm1, ln1, b1⟩
  have NM := Lib.hid (fun z hz => Nat.lt_of_le_of_lt (nm1 z hz) (show (21 : Nat) < 4294967281 by omega))
  have P1 := Lib.hid p1.zero
  have R1 := Lib.hid r1
  have B1 := Lib.hid b1
  have T1 := Lib.hid (T0.out.below b1)
  have hlen : zs.length ≤ 1048576 := by omega
  obtain ⟨A1, c1, rfl, hc1, hm1, hA1⟩ := p1.open_
  have HA := Lib.hid hA1
  obtain ⟨es, hes⟩ : ∃ es, zs.map Prod.fst = es := ⟨_, rfl⟩
  have HES := Lib.hid hes
  have HN : Hid (es.length = zs.length) := Lib.hid (by rw [← hes, List.length_map])
  have HI := Lib.hid (fun W (h : Below w1.heap.size w1 W) => impl_PacketJoin_any _ zs W (P1.out.below h) (R1.out.below h) NM.out hlen (T1.out.below h))
  have HS := Lib.hid (fun W (h : Below w1.heap.size w1 W) => spec_PacketJoin_any _ zs W (P1.out.below h) (R1.out.below h) NM.out hlen)
  rw [hes] at HI HS
  clear p1 r1 b1 hA1 nm1 hes
  go_wp2_with fail
  refine (HI.out _ (Below.refl _ _)).mono ?_
  rintro e w2 ⟨v2, rfl, o2, b2⟩
  obtain ⟨A2, c2, rfl, _, _, _⟩ := o2.form
  have O2 := Lib.hid o2.ints.zero
  have B2 := Lib.hid b2
  clear o2 b2
  go_wp2_with fail
  refine (HS.out _ B2.out).mono ?_
  rintro e w3 ⟨v3, rfl, o3, b3⟩
  obtain ⟨A3, c3, rfl, _, _, _⟩ := o3.form
  have O23 := Lib.hid (O2.out.below b3)
  have O3 := Lib.hid o3.ints.zero
  have B3 := Lib.hid (B2.out.trans (b3.mono B2.out.size))
  clear o3 b3 B2 O2
  cases hk : jnOk es
  · clear hk
    go_wp2_with fail
    refine (sameBytes_any _ _ _ _ _ O23.out O3.out).mono ?_
    rintro e w4 ⟨rfl, n4, rfl⟩
    rw [decide_eq_true rfl]
    go_wp2_with fail
    refine (sameBytes_any _ _ _ _ _ (O23.out.drewN n4) (O3.out.drewN n4)).mono ?_
    rintro e w5 ⟨rfl, n5, rfl⟩
    rw [decide_eq_true rfl]
    go_wp2_with fail
    go_ret
    exact ⟨rfl, B1.out.trans ((below_drewN B3.out (n4 + n5)).mono B1.out.size)⟩
  have HK := Lib.hid hk
  have HL := Lib.hid (jnL_ok hk)
  rw [HL.out] at O23 O3 ⊢
  clear hk
  go_wp2_with fail
  refine (sameBytes_any _ _ _ _ _ O23.out O3.out).mono ?_
  rintro e w4 ⟨rfl, n4, rfl⟩
  rw [decide_eq_true rfl]
  obtain ⟨W4, hW4⟩ : ∃ W4, w3.drewN n4 = W4 := ⟨_, rfl⟩
  have B4 : Hid (Below w1.heap.size w1 W4) := Lib.hid (by rw [← hW4]; exact below_drewN B3.out n4)
  rw [hW4]
  by_cases h2 : zs.length < 2
  · have h2' : (zs.length : Int) < 2 := by omega
    have O24 := Lib.hid (O23.out.drewN n4)
    have O34 := Lib.hid (O3.out.drewN n4)
    rw [hW4] at O24 O34
    clear hW4
    go_wp2_with fail
    refine (sameBytes_any _ _ _ _ _ O24.out O34.out).mono ?_
    rintro e w5 ⟨rfl, n5, rfl⟩
    rw [decide_eq_true rfl]
    go_wp2_with fail
    go_ret
    exact ⟨rfl, B1.out.trans ((below_drewN B4.out n5).mono B1.out.size)⟩
  clear hW4
  have h2' : (2 : Int) ≤ (zs.length : Int) := by omega
  obtain ⟨b, o, rfl, _, hb, hs⟩ := HA.out.resolve_left (fun h => by rw [h] at h2; simp at h2)
  have HSG := Lib.hid hs
  have J1 := Lib.hid (join_tail HK.out (by rw [HN.out]; omega))
  have J2 := Lib.hid (join_front HK.out (by rw [HN.out]; omega))
  have E1 : Hid (jnOk ((zs.drop 1).map Prod.fst) = false) := Lib.hid (by rw [List.map_drop, HES.out]; exact J1.out)
  have E2 : Hid (jnOk ((zs.take (zs.length - 1)).map Prod.fst) = false) := Lib.hid (by rw [List.map_take, HES.out, ← HN.out]; exact J2.out)
  have F1 := Lib.hid (fun W (h : Below w1.heap.size w1 W) => impl_PacketJoin_any _ (zs.drop 1) W ((pk_tail_ hs hc1 hm1 (by omega)).below h) (fun z hz => (R1.out.below h) z (List.mem_of_mem_drop hz)) (fun z hz => NM.out z (List.mem_of_mem_drop hz)) (by rw [List.length_drop]; omega) (T1.out.below h))
  have F2 := Lib.hid (fun W (h : Below w1.heap.size w1 W) => impl_PacketJoin_any _ (zs.take (zs.length - 1)) W ((pk_front_ hs hc1 hm1).below h) (fun z hz => (R1.out.below h) z (List.mem_of_mem_take hz)) (fun z hz => NM.out z (List.mem_of_mem_take hz)) (by rw [List.length_take]; omega) (T1.out.below h))
  rw [E1.out] at F1
  rw [E2.out] at F2
  obtain ⟨n, hn⟩ : ∃ n, zs.length = n := ⟨_, rfl⟩
  rw [hn] at hc1 h2' F1 F2 ⊢
  clear hn hs h2
  go_wp2_with fail
  refine (F1.out _ B4.out).mono ?_
  rintro e w5 ⟨v5, rfl, o5, b5⟩
  obtain ⟨A5, c5, rfl, _, _, _⟩ := o5.form
  have B5 := Lib.hid (B4.out.trans (b5.mono B4.out.size))
  clear o5 b5
  go_wp2_with fail
  refine (F2.out _ B5.out).mono ?_
  rintro e w6 ⟨v6, rfl, o6, b6⟩
  obtain ⟨A6, c6, rfl, _, _, _⟩ := o6.form
  have B6 := Lib.hid (B5.out.trans (b6.mono B5.out.size))
  clear o6 b6
  go_wp2_with fail
  go_ret
  exact ⟨by simp, B1.out.trans (B6.out.mono B1.out.size)⟩

set_option maxRecDepth 100000 in
theorem lifted (os : Os) (started : os.Started) (H : Type) (enc : TypeId × Value → H) :
    ReturnsInHanded {} Tryd.checked os 4 .any (fun w args => (Rows.fnJoinSpec.pre enc Tryd.prog Tryd.f4 Rows.fnJoinRow.domain false w args ∧ laidMetH Tryd.prog Rows.fnJoinRow.laid w) ∧ sizedMet enc Tryd.prog Tryd.f4 (OpenSpec.ofChange Rows.fnJoinSpec) false w args) (Rows.fnJoinSpec.post enc Tryd.prog Tryd.f4 false true false false) := by
  refine returnsInHanded_of_change_and (C := Tryd.checked) (X := fun w _ => laidMetH Tryd.prog Rows.fnJoinRow.laid w) (fun _ _ _ hh h => h.of_heap hh) Tryd.own started (by kernel_rfl) Tryd.func4
    (ChangeSpec.witness_shaped (enc := enc) (C := Tryd.checked) (os := os) (X := fun w _ => laidMetH Tryd.prog Rows.fnJoinRow.laid w) false (World.laidAll Tryd.prog os Rows.fnJoinRow.laid) #[.slice none 0 0] 8 (World.laidAll_os _ _ _)
      (World.shaped_of_ZipB (by kernel_rfl) (by kernel_rfl)) (by kernel_rfl) (by kernel_rfl) (by kernel_rfl)
      (by rw [MakeChecks.laidMetH_plain _ _ _ (by kernel_rfl)]; exact laidMet_laidAll _ (by kernel_rfl) (by kernel_rfl))) ?_
  intro W base args ds gs before hval0 hW hcnd _ hL _
  rw [MakeChecks.laidMetH_plain _ _ _ (by kernel_rfl)] at hL
  have hT : Tabs W := Tabs.of_laid _ rfl hL
  clear hL
  have hval : ∀ (j : Nat) t v, Tryd.f4.params[j]? = some t → args[j]? = some v → Value.okWide Tryd.prog W .any base t v := hval0
  have hW' := hW
  obtain ⟨p, q, hA0, hV, rfl, hfz, hnd⟩ := hW
  have hA : DataW.TrodAll enc Tryd.prog W 0 (fun _ => true) true Tryd.f4.params.toList args.toList ds p := hA0
  rw [Tryd.params4] at hA hval
  obtain ⟨v0, vs0, d0, ds0, p0, q0, hargs, rfl, rfl, h0, r0⟩ := trodAll_cons hA
  obtain ⟨rfl, rfl, rfl⟩ := trodAll_nil r0
  obtain rfl : args = #[v0] := by cases args; simp_all
  obtain ⟨rfl, rfl⟩ := trodVars_none hV
  obtain ⟨a0, len0, cap0, rfl⟩ := okWide_slice Tryd.underlying22 (hval 0 22 v0 rfl rfl)
  have k0 := h0
  have lt0 : ∀ x ∈ p0, x.block < W.heap.size := by obtain ⟨m, hm⟩ := k0; exact DataW.trod_lt m _ _ _ hm
  obtain ⟨z0, w0⟩ : ∃ zs, IsRow .u8 W a0 len0 cap0 zs := by
    obtain ⟨fuel, hf⟩ := h0
    rcases open_ints Tryd.underlying22 Tryd.underlying5 (by kernel_rfl) hf with ⟨hcs, _⟩ | ⟨x, l, c, zs, hcs, _, hl, hm, hz, _, hcell, hwz⟩
    · simp [Value.cells] at hcs
      obtain ⟨rfl, rfl, rfl⟩ := hcs
      exact ⟨[], .inl ⟨rfl, rfl, rfl, rfl⟩⟩
    · simp [Value.cells] at hcs
      obtain ⟨rfl, rfl, rfl⟩ := hcs
      exact ⟨zs, .inr ⟨_, rfl, hl, hm, by simpa using hz, hcell, hwz⟩⟩
  clear hA0 hval0
  refine (walk (.slice a0 len0 cap0) _ W ((Came.of_row w0).1) hT).mono fun e W' ⟨he, bel⟩ => ?_
  subst he
  exact ⟨_, rfl, _, _, _, [], _, [], hW', trodAll_mk1 (shut_bool Tryd.underlying4 _), (trodAll_cons_mk (Below.trod Tryd.laidOut (by kernel_rfl) (of_decide_eq_true (by kernel_rfl)) k0 bel lt0) trodAll_mk0), rfl, bel.frame _, fun h => by cases h⟩

theorem closed : joinedFacts Tryd.prog 4 Tryd.f4 Rows.fnJoinSpec Rows.fnJoinRow = true := by
  unfold joinedFacts
  repeat' (with_reducible refine band ?_ ?_)
  all_goals (with_reducible (first | exact Tryd.laidOut | exact kMaps | exact kStops | exact kKnobs | exact kHeard | exact kEnter | refine eqPlain ?_ | refine eqLift ?_ | refine eqMake ?_ | skip))
  all_goals (as_aux_lemma => kernel_rfl)

/-- The row -/
theorem row_holds : Rows.FnJoinSaid :=
  OpenClaim.holds_of_wide 4 Tryd.f4 rfl rfl rfl rfl rfl rfl rfl ⟨rfl, rfl, rfl, rfl, rfl⟩ rfl rfl rfl rfl rfl (by as_aux_lemma => kernel_rfl) Tryd.func4 closed
    (of_decide_eq_true (by as_aux_lemma => kernel_rfl)) (by unfold Func.isWrapper; first | (rw [if_pos (by decide +kernel)]; kernel_rfl) | (rw [if_neg (by decide +kernel)]; exact ⟨rfl, rfl⟩))
    (fun os started H enc _ => lifted os started H enc)

set_option maxRecDepth 100000 in
/-- THE STATEMENT -/
theorem proved : Rows.FnJoinCardSaid :=
  Claim7.holds_tied_plain_at .later [] [.data, .data, .data, .data, .pinned] true (true, "be973a5d57cf08116a7e6a47837bfd3f23ecac6c98cd868bd1c5ddfbe69aa512") false row_holds (fun _ h => by cases h) (by as_aux_lemma => kernel_rfl) (fun _ h => by cases h) fnJoin_row_tie rfl ⟨rfl, rfl⟩ (by as_aux_lemma => kernel_rfl) rfl
    (fun f fn hf hfn => by
      obtain rfl : f = 4 := Option.some.inj ((show Tryd.prog.funcNamed "loop.example/proxyframes/laws.FnJoin" = some 4 by kernel_rfl).symm.trans hf) |>.symm
      obtain rfl : fn = Tryd.f4 := (Option.some.inj (Tryd.func4.symm.trans hfn)).symm
      exact ⟨by kernel_rfl, fun j t ht => by
        rw [Tryd.params4] at ht
        have hm : t ∈ [22] := by simpa using Array.mem_of_getElem? ht
        have hall : ([22].all fun u => !Tryd.prog.wantsStandIn u) = true := by kernel_rfl
        exact (show Tryd.prog.wantsStandIn t = false by simpa using List.all_eq_true.1 hall t hm)⟩)
    (by as_aux_lemma => kernel_rfl)
end Go.Proofs.YtdmkacbjdojkpaaDoor.fnJoin

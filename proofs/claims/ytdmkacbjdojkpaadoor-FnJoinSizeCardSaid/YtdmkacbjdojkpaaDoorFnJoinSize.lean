/-
  The data that is joined is as long as its parts: true for every code. Conditions: none.
-/
import Derived.Test.YtdmkacbjdojkpaaDoorKitC
import Derived.Test.YtdmkacbjdojkpaaDoorLaid
import Derived.Test.YtdmkacbjdojkpaaDoorJoin
import Derived.Test.YtdmkacbjdojkpaaDoorJoinS
import Derived.Test.YtdmkacbjdojkpaaDoorDrawJoin
namespace Go.Proofs.YtdmkacbjdojkpaaDoor.fnJoinSize
open Go.ChangeShapes Go.WideShapes Go.ChangeAt Go.RowKit

theorem pk_nil (w : World) (A : Option Addr) : Pkts w 0 (.slice A 0 0) [] := ⟨by simp [kv], A, 0, rfl, Nat.le_refl _, by unfold maxLen; omega, .inl (by simp [kv])⟩
theorem jnD_all {es : List (Int × Int × List Int × ByteArray × Int × List Int)} {j : Nat} : (jnD es j).length ≤ (jnD es es.length).length := by
  unfold jnD
  rw [List.take_length]
  conv => rhs; rw [← List.take_append_drop j es, List.flatMap_append, List.length_append]
  omega
theorem jn_few {es : List (Int × Int × List Int × ByteArray × Int × List Int)} (h : jnOk es = true) : (jnD es es.length).length ≤ 120 := by
  unfold jnOk at h
  simp only [Bool.and_eq_true, decide_eq_true_eq] at h
  exact h.2

set_option maxRecDepth 100000 in
set_option maxHeartbeats 4000000 in
theorem walk (v : Value) (bs : List Int) (w : World) (hv : Came .u8 w w.heap.size v bs) (ht : Tabs w) : Calls Tryd.prog 6 #[v] w fun e w' => e = .returned (.bool true) ∧ Below w.heap.size w w' := by
  have hv0 := Lib.hid hv
  have T0 := Lib.hid ht
  clear ht
  obtain ⟨A, c, rfl, hc, hm, _, _⟩ := hv
  by_cases hl : 1048576 < bs.length
  · have hl' : (1048576 : Int) < (bs.length : Int) := by omega
    go_enter Tryd.func6, Tryd.ntmps6
    go_wp2_with fail
    go_ret
    exact ⟨rfl, Below.refl _ _⟩
  have hl' : (bs.length : Int) ≤ 1048576 := by omega
  clear hl
  go_enter Tryd.func6, Tryd.ntmps6
  go_wp2_with fail
  refine (DrawPacketJoin_any _ bs w hv0.out).mono ?_
  rintro e w1 ⟨v1, zs, rfl, p1, r1, nm1, ln1, b1⟩
  have NM := Lib.hid (fun z hz => Nat.lt_of_le_of_lt (nm1 z hz) (show (21 : Nat) < 4294967281 by omega))
  have P1 := Lib.hid p1.zero
  have R1 := Lib.hid r1
  have B1 := Lib.hid b1
  have T1 := Lib.hid (T0.out.below b1)
  have hlen : zs.length ≤ 1048576 := by omega
  obtain ⟨A1, c1, rfl, hc1, hm1, hA1⟩ := p1.open_
  have HA := Lib.hid hA1
  obtain ⟨es, hes⟩ : ∃ es, zs.map Prod.fst = es := ⟨_, rfl⟩
  have HES := Lib.hid hes
  have HN : Hid (es.length = zs.length) := Lib.hid (by rw [← hes, List.length_map])
  have HI := Lib.hid (fun W (h : Below w1.heap.size w1 W) => impl_PacketJoin_any _ zs W (P1.out.below h) (R1.out.below h) NM.out hlen (T1.out.below h))
  have HS := Lib.hid (fun W (h : Below w1.heap.size w1 W) => spec_PacketJoin_any _ zs W (P1.out.below h) (R1.out.below h) NM.out hlen)
  rw [hes] at HI HS
  clear p1 r1 b1 hA1 nm1 hes
  go_wp2_with fail
  refine (HI.out _ (Below.refl _ _)).mono ?_
  rintro e w2 ⟨v2, rfl, o2, b2⟩
  obtain ⟨A2, c2, rfl, _, _, _⟩ := o2.form
  have O2 := Lib.hid o2.ints.zero
  have B2 := Lib.hid b2
  clear o2 b2
  go_wp2_with fail
  refine (HS.out _ B2.out).mono ?_
  rintro e w3 ⟨v3, rfl, o3, b3⟩
  obtain ⟨A3, c3, rfl, _, _, _⟩ := o3.form
  have O23 := Lib.hid (O2.out.below b3)
  have O3 := Lib.hid o3.ints.zero
  have B3 := Lib.hid (B2.out.trans (b3.mono B2.out.size))
  clear o3 b3 B2 O2
  cases hk : jnOk es
  · clear hk
    go_wp2_with fail
    refine (sameBytes_any _ _ _ _ _ O23.out O3.out).mono ?_
    rintro e w4 ⟨rfl, n4, rfl⟩
    rw [decide_eq_true rfl]
    go_wp2_with fail
    refine (sameBytes_any _ _ _ _ _ (O23.out.drewN n4) (O3.out.drewN n4)).mono ?_
    rintro e w5 ⟨rfl, n5, rfl⟩
    rw [decide_eq_true rfl]
    go_wp2_with fail
    go_ret
    exact ⟨rfl, B1.out.trans ((below_drewN B3.out (n4 + n5)).mono B1.out.size)⟩
  have HK := Lib.hid hk
  have HL := Lib.hid (jnL_ok hk)
  rw [HL.out] at O23 O3 ⊢
  clear hk
  go_wp2_with fail
  refine (sameBytes_any _ _ _ _ _ O23.out O3.out).mono ?_
  rintro e w4 ⟨rfl, n4, rfl⟩
  rw [decide_eq_true rfl]
  obtain ⟨W4, hW4⟩ : ∃ W4, w3.drewN n4 = W4 := ⟨_, rfl⟩
  have B4 : Hid (Below w1.heap.size w1 W4) := Lib.hid (by rw [← hW4]; exact below_drewN B3.out n4)
  rw [hW4]
  clear hW4
  obtain ⟨n, hn⟩ : ∃ n, zs.length = n := ⟨_, rfl⟩
  have HNZ := Lib.hid hn
  have hm1' := hm1
  obtain ⟨M, hM⟩ : ∃ M, (jnD es es.length).length = M := ⟨_, rfl⟩
  have HM := Lib.hid hM
  rw [hn] at hc1 hlen ⊢
  rw [hM]
  clear hn hM
  go_wp2_with fail
  go_loopw [8, 9] (fun u i wr => ∃ j : Nat, j ≤ n ∧ u = .int .i64 ((jnD es j).length : Int) ∧ i = .int .i64 (j : Int) ∧ Hid (Below w1.heap.size w1 wr)) (fun _ i _ => n - (intOf i).toNat)
  case atStart => exact ⟨0, Nat.zero_le _, by simp [jnD], rfl, B4⟩
  case round =>
    obtain ⟨j, hj, rfl, rfl, HB⟩ := hrel
    by_cases hlt : j < n
    · have hlt' : (j : Int) < (n : Int) := by omega
      have hji0 : (0 : Int) ≤ (j : Int) := by omega
      obtain ⟨z, hz⟩ : ∃ z, zs[j]? = some z := ⟨zs[j]'(by rw [HNZ.out]; omega), List.getElem?_eq_getElem _⟩
      obtain ⟨b, o, rfl, _, hb, hs⟩ := HA.out.resolve_left (fun h => by have := HNZ.out; rw [h] at this; simp at this; omega)
      obtain ⟨_, hd⟩ := R1.out z (List.mem_of_getElem? hz)
      have cx := (pk_cells (hs.below HB.out hs.lt) hz).2.2.2.2.2
      have hzf : es[j]? = some z.1 := by rw [← HES.out, List.getElem?_map, hz]; rfl
      have hsum := jnD_succ hzf
      obtain ⟨D, e, hde, _, _, _⟩ := hd.open_
      rw [hde] at cx
      obtain ⟨L0, hL0⟩ : ∃ L, (jnD es j).length = L := ⟨_, rfl⟩
      obtain ⟨L1, hL1⟩ : ∃ L, z.1.2.2.2.2.2.length = L := ⟨_, rfl⟩
      have HSUM : Hid ((jnD es (j + 1)).length = L0 + L1) := Lib.hid (by rw [hsum, List.length_append, hL0, hL1])
      have HLE : Hid (L0 + L1 ≤ 1000000) := Lib.hid (by
        have h1 := jnD_all (es := es) (j := j + 1)
        have h2 := jn_few HK.out
        rw [HSUM.out] at h1
        omega)
      have hle := HLE.out
      rw [hL0]
      rw [hL1] at cx
      clear hs hz hd hzf hsum hde hL0 hL1
      go_wp2_with fail
      go_roundw
      case rel => exact ⟨j + 1, by omega, by rw [HSUM.out]; go_num, by go_num, HB⟩
      case measure => simp [intOf]; omega
    · have hlt' : ¬ (j : Int) < (n : Int) := by omega
      have hjn : j = n := by omega
      have HE : Hid ((jnD es j).length = M) := Lib.hid (by rw [hjn, ← HNZ.out, ← HN.out]; exact HM.out)
      rw [HE.out]
      clear hjn
      go_wp2_with fail
      have BV := HB.out.alloc HB.out.size (.cells #[] 38)
      have BV2 := Lib.hid BV
      refine (impl_PacketJoin_any _ [] _ (pk_nil _ _) (fun z hz => (by cases hz)) (fun z hz => (by cases hz)) (Nat.zero_le _) (T1.out.below BV)).mono ?_
      rintro e w5 ⟨v5, rfl, o5, b5⟩
      obtain ⟨A5, c5, rfl, _, _, _⟩ := o5.form
      rw [show jnOk (List.map Prod.fst ([] : List ((Int × Int × List Int × ByteArray × Int × List Int) × Value × Value))) = false from jn_none rfl]
      have B5 := Lib.hid (BV.trans (b5.mono BV.size))
      clear b5 o5 BV
      go_wp2_with fail
      go_ret
      exact ⟨by simp, B1.out.trans (B5.out.mono B1.out.size)⟩

set_option maxRecDepth 100000 in
theorem lifted (os : Os) (started : os.Started) (H : Type) (enc : TypeId × Value → H) :
    ReturnsInHanded {} Tryd.checked os 6 .any (fun w args => (Rows.fnJoinSizeSpec.pre enc Tryd.prog Tryd.f6 Rows.fnJoinSizeRow.domain false w args ∧ laidMetH Tryd.prog Rows.fnJoinSizeRow.laid w) ∧ sizedMet enc Tryd.prog Tryd.f6 (OpenSpec.ofChange Rows.fnJoinSizeSpec) false w args) (Rows.fnJoinSizeSpec.post enc Tryd.prog Tryd.f6 false true false false) := by
  refine returnsInHanded_of_change_and (C := Tryd.checked) (X := fun w _ => laidMetH Tryd.prog Rows.fnJoinSizeRow.laid w) (fun _ _ _ hh h => h.of_heap hh) Tryd.own started (by kernel_rfl) Tryd.func6
    (ChangeSpec.witness_shaped (enc := enc) (C := Tryd.checked) (os := os) (X := fun w _ => laidMetH Tryd.prog Rows.fnJoinSizeRow.laid w) false (World.laidAll Tryd.prog os Rows.fnJoinSizeRow.laid) #[.slice none 0 0] 8 (World.laidAll_os _ _ _)
      (World.shaped_of_ZipB (by kernel_rfl) (by kernel_rfl)) (by kernel_rfl) (by kernel_rfl) (by kernel_rfl)
      (by rw [MakeChecks.laidMetH_plain _ _ _ (by kernel_rfl)]; exact laidMet_laidAll _ (by kernel_rfl) (by kernel_rfl))) ?_
  intro W base args ds gs before hval0 hW hcnd _ hL _
  rw [MakeChecks.laidMetH_plain _ _ _ (by kernel_rfl)] at hL
  have hT : Tabs W := Tabs.of_laid _ rfl hL
  clear hL
  have hval : ∀ (j : Nat) t v, Tryd.f6.params[j]? = some t → args[j]? = some v → Value.okWide Tryd.prog W .any base t v := hval0
  have hW' := hW
  obtain ⟨p, q, hA0, hV, rfl, hfz, hnd⟩ := hW
  have hA : DataW.TrodAll enc Tryd.prog W 0 (fun _ => true) true Tryd.f6.params.toList args.toList ds p := hA0
  rw [Tryd.params6] at hA hval
  obtain ⟨v0, vs0, d0, ds0, p0, q0, hargs, rfl, rfl, h0, r0⟩ := trodAll_cons hA
  obtain ⟨rfl, rfl, rfl⟩ := trodAll_nil r0
  obtain rfl : args = #[v0] := by cases args; simp_all
  obtain ⟨rfl, rfl⟩ := trodVars_none hV
  obtain ⟨a0, len0, cap0, rfl⟩ := okWide_slice Tryd.underlying22 (hval 0 22 v0 rfl rfl)
  have k0 := h0
  have lt0 : ∀ x ∈ p0, x.block < W.heap.size := by obtain ⟨m, hm⟩ := k0; exact DataW.trod_lt m _ _ _ hm
  obtain ⟨z0, w0⟩ : ∃ zs, IsRow .u8 W a0 len0 cap0 zs := by
    obtain ⟨fuel, hf⟩ := h0
    rcases open_ints Tryd.underlying22 Tryd.underlying5 (by kernel_rfl) hf with ⟨hcs, _⟩ | ⟨x, l, c, zs, hcs, _, hl, hm, hz, _, hcell, hwz⟩
    · simp [Value.cells] at hcs
      obtain ⟨rfl, rfl, rfl⟩ := hcs
      exact ⟨[], .inl ⟨rfl, rfl, rfl, rfl⟩⟩
    · simp [Value.cells] at hcs
      obtain ⟨rfl, rfl, rfl⟩ := hcs
      exact ⟨zs, .inr ⟨_, rfl, hl, hm, by simpa using hz, hcell, hwz⟩⟩
  clear hA0 hval0
  refine (walk (.slice a0 len0 cap0) _ W ((Came.of_row w0).1) hT).mono fun e W' ⟨he, bel⟩ => ?_
  subst he
  exact ⟨_, rfl, _, _, _, [], _, [], hW', trodAll_mk1 (shut_bool Tryd.underlying4 _), (trodAll_cons_mk (Below.trod Tryd.laidOut (by kernel_rfl) (of_decide_eq_true (by kernel_rfl)) k0 bel lt0) trodAll_mk0), rfl, bel.frame _, fun h => by cases h⟩

theorem closed : joinedFacts Tryd.prog 6 Tryd.f6 Rows.fnJoinSizeSpec Rows.fnJoinSizeRow = true := by
  unfold joinedFacts
  repeat' (with_reducible refine band ?_ ?_)
  all_goals (with_reducible (first | exact Tryd.laidOut | exact kMaps | exact kStops | exact kKnobs | exact kHeard | exact kEnter | refine eqPlain ?_ | refine eqLift ?_ | refine eqMake ?_ | skip))
  all_goals (as_aux_lemma => kernel_rfl)

/-- The row -/
theorem row_holds : Rows.FnJoinSizeSaid :=
  OpenClaim.holds_of_wide 6 Tryd.f6 rfl rfl rfl rfl rfl rfl rfl ⟨rfl, rfl, rfl, rfl, rfl⟩ rfl rfl rfl rfl rfl (by as_aux_lemma => kernel_rfl) Tryd.func6 closed
    (of_decide_eq_true (by as_aux_lemma => kernel_rfl)) (by unfold Func.isWrapper; first | (rw [if_pos (by decide +kernel)]; kernel_rfl) | (rw [if_neg (by decide +kernel)]; exact ⟨rfl, rfl⟩))
    (fun os started H enc _ => lifted os started H enc)

set_option maxRecDepth 100000 in
/-- THE STATEMENT -/
theorem proved : Rows.FnJoinSizeCardSaid :=
  Claim7.holds_tied_plain_at .later [] [.data, .data, .data, .data, .pinned] true (true, "be973a5d57cf08116a7e6a47837bfd3f23ecac6c98cd868bd1c5ddfbe69aa512") false row_holds (fun _ h => by cases h) (by as_aux_lemma => kernel_rfl) (fun _ h => by cases h) fnJoinSize_row_tie rfl ⟨rfl, rfl⟩ (by as_aux_lemma => kernel_rfl) rfl
    (fun f fn hf hfn => by
      obtain rfl : f = 6 := Option.some.inj ((show Tryd.prog.funcNamed "loop.example/proxyframes/laws.FnJoinSize" = some 6 by kernel_rfl).symm.trans hf) |>.symm
      obtain rfl : fn = Tryd.f6 := (Option.some.inj (Tryd.func6.symm.trans hfn)).symm
      exact ⟨by kernel_rfl, fun j t ht => by
        rw [Tryd.params6] at ht
        have hm : t ∈ [22] := by simpa using Array.mem_of_getElem? ht
        have hall : ([22].all fun u => !Tryd.prog.wantsStandIn u) = true := by kernel_rfl
        exact (show Tryd.prog.wantsStandIn t = false by simpa using List.all_eq_true.1 hall t hm)⟩)
    (by as_aux_lemma => kernel_rfl)
end Go.Proofs.YtdmkacbjdojkpaaDoor.fnJoinSize

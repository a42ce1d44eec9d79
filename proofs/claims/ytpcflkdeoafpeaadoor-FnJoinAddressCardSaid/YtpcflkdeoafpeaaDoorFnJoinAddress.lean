/-
  Packets to two addresses are not joined: true for every code. Conditions: none.
-/
import Derived.Test.YtpcflkdeoafpeaaDoorKitC
import Derived.Test.YtpcflkdeoafpeaaDoorLaid
import Derived.Test.YtpcflkdeoafpeaaDoorJoin
import Derived.Test.YtpcflkdeoafpeaaDoorJoinS
import Derived.Test.YtpcflkdeoafpeaaDoorDrawJoin
import Derived.Test.YtpcflkdeoafpeaaDoorPortT
namespace Go.Proofs.YtpcflkdeoafpeaaDoor.fnJoinAddress
open Go.ChangeShapes Go.WideShapes Go.ChangeAt Go.RowKit

theorem join_ports {es : List (Int × Int × List Int × ByteArray × Int × List Int)} {i : Nat} (h : jnOk es = true) (hi : i < es.length) : 0 ≤ (es.getD i noPk).2.2.2.2.1 ∧ (es.getD i noPk).2.2.2.2.1 ≤ 65535 := by
  unfold jnOk at h
  simp only [Bool.and_eq_true] at h
  have h3 := jnTo_at h.1.2 hi
  unfold jnAt at h3
  simp only [Bool.and_eq_true] at h3
  exact adOk_port (pkE_parts h3.1.1).1

set_option maxRecDepth 100000 in
set_option maxHeartbeats 4000000 in
theorem walk (v : Value) (bs : List Int) (w : World) (hv : Came .u8 w w.heap.size v bs) (ht : Tabs w) : Calls Tryd.prog 3 #[v] w fun e w' => e = .returned (.bool true) ∧ Below w.heap.size w w' := by
  have hv0 := Lib.hid hv
  have T0 := Lib.hid ht
  clear ht
  obtain ⟨A, c, rfl, hc, hm, _, _⟩ := hv
  by_cases hl : 1048576 < bs.length
  · have hl' : (1048576 : Int) < (bs.length : Int) := by omega
    go_enter Tryd.func3, Tryd.ntmps3
    go_wp2_with fail
    go_ret
    exact ⟨rfl, Below.refl _ _⟩
  have hl' : (bs.length : Int) ≤ 1048576 := by omega
  clear hl
  go_enter Tryd.func3, Tryd.ntmps3
  go_wp2_with fail
  refine (DrawPacketJoin_any _ bs w hv0.out).mono ?_
  rintro e w1 ⟨v1, zs, rfl, p1, r1, nm1, ln1, b1⟩
  have NM := Lib.hid (fun z hz => Nat.lt_of_le_of_lt (nm1 z hz) (show (21 : Nat) < 4294967281 by omega))
  have P1 := Lib.hid p1.zero
  have R1 := Lib.hid r1
  have B1 := Lib.hid b1
  have T1 := Lib.hid (T0.out.below b1)
  have hlen : zs.length ≤ 1048576 := by omega
  obtain ⟨A1, c1, rfl, hc1, hm1, hA1⟩ := p1.open_
  have HA := Lib.hid hA1
  obtain ⟨es, hes⟩ : ∃ es, zs.map Prod.fst = es := ⟨_, rfl⟩
  have HES := Lib.hid hes
  have HN : Hid (es.length = zs.length) := Lib.hid (by rw [← hes, List.length_map])
  have HI := Lib.hid (fun W (h : Below w1.heap.size w1 W) => impl_PacketJoin_any _ zs W (P1.out.below h) (R1.out.below h) NM.out hlen (T1.out.below h))
  have HS := Lib.hid (fun W (h : Below w1.heap.size w1 W) => spec_PacketJoin_any _ zs W (P1.out.below h) (R1.out.below h) NM.out hlen)
  rw [hes] at HI HS
  clear p1 r1 b1 hA1 nm1 hes
  go_wp2_with fail
  refine (HI.out _ (Below.refl _ _)).mono ?_
  rintro e w2 ⟨v2, rfl, o2, b2⟩
  obtain ⟨A2, c2, rfl, _, _, _⟩ := o2.form
  have O2 := Lib.hid o2.ints.zero
  have B2 := Lib.hid b2
  clear o2 b2
  go_wp2_with fail
  refine (HS.out _ B2.out).mono ?_
  rintro e w3 ⟨v3, rfl, o3, b3⟩
  obtain ⟨A3, c3, rfl, _, _, _⟩ := o3.form
  have O23 := Lib.hid (O2.out.below b3)
  have O3 := Lib.hid o3.ints.zero
  have B3 := Lib.hid (B2.out.trans (b3.mono B2.out.size))
  clear o3 b3 B2 O2
  cases hk : jnOk es
  · clear hk
    go_wp2_with fail
    refine (sameBytes_any _ _ _ _ _ O23.out O3.out).mono ?_
    rintro e w4 ⟨rfl, n4, rfl⟩
    rw [decide_eq_true rfl]
    go_wp2_with fail
    refine (sameBytes_any _ _ _ _ _ (O23.out.drewN n4) (O3.out.drewN n4)).mono ?_
    rintro e w5 ⟨rfl, n5, rfl⟩
    rw [decide_eq_true rfl]
    go_wp2_with fail
    go_ret
    exact ⟨rfl, B1.out.trans ((below_drewN B3.out (n4 + n5)).mono B1.out.size)⟩
  have HK := Lib.hid hk
  have HL := Lib.hid (jnL_ok hk)
  rw [HL.out] at O23 O3 ⊢
  clear hk
  go_wp2_with fail
  refine (sameBytes_any _ _ _ _ _ O23.out O3.out).mono ?_
  rintro e w4 ⟨rfl, n4, rfl⟩
  rw [decide_eq_true rfl]
  obtain ⟨W4, hW4⟩ : ∃ W4, w3.drewN n4 = W4 := ⟨_, rfl⟩
  have B4 : Hid (Below w1.heap.size w1 W4) := Lib.hid (by rw [← hW4]; exact below_drewN B3.out n4)
  rw [hW4]
  by_cases h2 : zs.length < 2
  · have h2' : (zs.length : Int) < 2 := by omega
    have O24 := Lib.hid (O23.out.drewN n4)
    have O34 := Lib.hid (O3.out.drewN n4)
    rw [hW4] at O24 O34
    clear hW4
    go_wp2_with fail
    refine (sameBytes_any _ _ _ _ _ O24.out O34.out).mono ?_
    rintro e w5 ⟨rfl, n5, rfl⟩
    rw [decide_eq_true rfl]
    go_wp2_with fail
    go_ret
    exact ⟨rfl, B1.out.trans ((below_drewN B4.out n5).mono B1.out.size)⟩
  clear hW4
  have h2' : (2 : Int) ≤ (zs.length : Int) := by omega
  obtain ⟨b, o, rfl, _, hb, hs⟩ := HA.out.resolve_left (fun h => by rw [h] at h2; simp at h2)
  have h1c : ∀ z ∈ zs, z.2.1.oneCell' = true ∧ z.2.2.oneCell' = true := fun z hz => by
    obtain ⟨hq, hd⟩ := R1.out z hz
    obtain ⟨_, _, e1, _⟩ := hq.open_
    obtain ⟨_, _, e2, _⟩ := hd.open_
    rw [e1, e2]
    exact ⟨rfl, rfl⟩
  clear hs
  have PV : Hid (Pkts (W4.alloc (.cells #[] 32)) 0 (.slice (some ⟨b, o, none⟩) zs.length c1) zs) := Lib.hid ((P1.out.below B4.out).alloc _)
  have LK : Hid (OwnK (W4.alloc (.cells #[] 32)) W4.heap.size (.slice (some ⟨W4.heap.size, 0, none⟩) 0 0) []) := Lib.hid (OwnK.lit W4 [] W4.heap.size (Nat.le_refl _) (Nat.zero_le _))
  obtain ⟨m, hm⟩ : ∃ m, zs.length = m + 1 := ⟨zs.length - 1, by omega⟩
  obtain ⟨z, hz⟩ : ∃ z, zs[m]? = some z := ⟨zs[m]'(by omega), List.getElem?_eq_getElem _⟩
  have HM := Lib.hid hm
  have HZm := Lib.hid hz
  have H2 := Lib.hid h2
  have hml : (zs.length : Int) - 1 = (m : Int) := by omega
  have hmi : (m : Int) < (zs.length : Int) := by omega
  have hm0 : (0 : Int) ≤ (m : Int) := by omega
  have hpz := join_ports HK.out (i := m) (by rw [HN.out]; omega)
  have hzp : (es.getD m noPk).2.2.2.2.1 = z.1.2.2.2.2.1 := by
    have hzf : es[m]? = some z.1 := by rw [← HES.out, List.getElem?_map, hz]; rfl
    rw [getD_of hzf]
  rw [hzp] at hpz
  obtain ⟨P, hP⟩ : ∃ P, z.1.2.2.2.2.1 = P := ⟨_, rfl⟩
  have HP := Lib.hid hP
  rw [hP] at hpz
  clear hm hz hP hzp
  go_wp2_with (at_builtin; refine wp_pkts rfl (.tmp 53) (.tmp 54) rfl rfl rfl (base := W4.heap.size) (zs := []) (ys := zs) LK.out PV.out h1c (by simp; omega) (by simp) ?_; intro v5 w5 o5 b5 g5; rw [List.nil_append] at o5; obtain ⟨A5, c5, rfl, hc5, hm5, hA5⟩ := o5.form; obtain ⟨g, rfl, hg, hgl, hsg⟩ := hA5.resolve_left (fun h => by have h2 := H2.out; rw [h] at h2; simp at h2); have B5 : Hid (Below w1.heap.size w1 w5) := Lib.hid (B4.out.trans (((Below.refl _ W4).alloc (Nat.le_refl _) _).trans (b5.mono (by simp)) |>.mono B4.out.size)); have O5 := Lib.hid o5; have HSG := Lib.hid hsg; have x5_ : w5.cell? ⟨g, m * 6 + 1 + 3, none⟩ = some (.int .i64 P) := (by have h := (pk_cells hsg HZm.out).2.2.2.2.1; rw [Nat.zero_add, HP.out] at h; exact h); have f5_ : w5.frozen? ⟨g, m * 6 + 1 + 3, none⟩ = false := hsg.frozen (m * 6 + 4); clear hA5 hsg o5 b5 g5 hc5 hm5)
  obtain ⟨z', hz'⟩ : ∃ z', (((z.1.1, z.1.2.1, z.1.2.2.1, z.1.2.2.2.1, (P + 1) % 65536, z.1.2.2.2.2.2), z.2) : ((Int × Int × List Int × ByteArray × Int × List Int) × Value × Value)) = z' := ⟨_, rfl⟩
  have J := (OwnK.setJ (t := 4) (u := (.int .i64 ((P + 1) % 65536))) (z' := z') O5.out HZm.out (by omega) (by rw [← hz']; rfl)).pkts
  have BB : Hid (Below w1.heap.size w1 (w5.setCell ⟨g, m * 6 + 1 + 3, none⟩ (.int .i64 ((P + 1) % 65536)))) := Lib.hid (B5.out.setCell (p := ⟨g, m * 6 + 1 + 3, none⟩) (show w1.heap.size ≤ g from Nat.le_trans B4.out.size hg) _)
  have JR : ReadK (w5.setCell ⟨g, m * 6 + 1 + 3, none⟩ (.int .i64 ((P + 1) % 65536))) (zs.set m z') := by
    intro y hy
    rcases List.mem_or_eq_of_mem_set hy with hy | rfl
    · exact (R1.out.below BB.out) y hy
    · have h := (R1.out.below BB.out) z (List.mem_of_getElem? HZm.out)
      rw [← hz']
      exact h
  have JN : ∀ y ∈ zs.set m z', y.1.2.2.2.1.size < 4294967281 := by
    intro y hy
    rcases List.mem_or_eq_of_mem_set hy with hy | rfl
    · exact NM.out y hy
    · have h := NM.out z (List.mem_of_getElem? HZm.out)
      rw [← hz']
      exact h
  have JK : jnOk ((zs.set m z').map Prod.fst) = false := by
    have hzf : es[m]? = some z.1 := by rw [← HES.out, List.getElem?_map, HZm.out]; rfl
    have e : (zs.set m z').map Prod.fst = es.set m (nextP z.1) := by
      rw [List.map_set, HES.out, ← hz']
      unfold nextP
      rw [HP.out]
    rw [e]
    exact join_port HK.out (by rw [HN.out]; exact HM.out) (by have := HM.out; have := H2.out; omega) hzf
  have F := impl_PacketJoin_any _ (zs.set m z') _ (Sl.more J (Nat.zero_le _)) JR JN (by rw [List.length_set]; omega) (T1.out.below BB.out)
  rw [JK] at F
  refine F.mono ?_
  rintro e w6 ⟨v6, rfl, o6, b6⟩
  obtain ⟨A6, c6, rfl, _, _, _⟩ := o6.form
  have B6 := Lib.hid (BB.out.trans (b6.mono BB.out.size))
  clear o6 b6 F J JR JN JK
  go_wp2_with fail
  go_ret
  exact ⟨by simp, B1.out.trans (B6.out.mono B1.out.size)⟩

set_option maxRecDepth 100000 in
theorem lifted (os : Os) (started : os.Started) (H : Type) (enc : TypeId × Value → H) :
    ReturnsInHanded {} Tryd.checked os 3 .any (fun w args => (Rows.fnJoinAddressSpec.pre enc Tryd.prog Tryd.f3 Rows.fnJoinAddressRow.domain false w args ∧ laidMetH Tryd.prog Rows.fnJoinAddressRow.laid w) ∧ sizedMet enc Tryd.prog Tryd.f3 (OpenSpec.ofChange Rows.fnJoinAddressSpec) false w args) (Rows.fnJoinAddressSpec.post enc Tryd.prog Tryd.f3 false true false false) := by
  refine returnsInHanded_of_change_and (C := Tryd.checked) (X := fun w _ => laidMetH Tryd.prog Rows.fnJoinAddressRow.laid w) (fun _ _ _ hh h => h.of_heap hh) Tryd.own started (by kernel_rfl) Tryd.func3
    (ChangeSpec.witness_shaped (enc := enc) (C := Tryd.checked) (os := os) (X := fun w _ => laidMetH Tryd.prog Rows.fnJoinAddressRow.laid w) false (World.laidAll Tryd.prog os Rows.fnJoinAddressRow.laid) #[.slice none 0 0] 8 (World.laidAll_os _ _ _)
      (World.shaped_of_ZipB (by kernel_rfl) (by kernel_rfl)) (by kernel_rfl) (by kernel_rfl) (by kernel_rfl)
      (by rw [MakeChecks.laidMetH_plain _ _ _ (by kernel_rfl)]; exact laidMet_laidAll _ (by kernel_rfl) (by kernel_rfl))) ?_
  intro W base args ds gs before hval0 hW hcnd _ hL _
  rw [MakeChecks.laidMetH_plain _ _ _ (by kernel_rfl)] at hL
  have hT : Tabs W := Tabs.of_laid _ rfl hL
  clear hL
  have hval : ∀ (j : Nat) t v, Tryd.f3.params[j]? = some t → args[j]? = some v → Value.okWide Tryd.prog W .any base t v := hval0
  have hW' := hW
  obtain ⟨p, q, hA0, hV, rfl, hfz, hnd⟩ := hW
  have hA : DataW.TrodAll enc Tryd.prog W 0 (fun _ => true) true Tryd.f3.params.toList args.toList ds p := hA0
  rw [Tryd.params3] at hA hval
  obtain ⟨v0, vs0, d0, ds0, p0, q0, hargs, rfl, rfl, h0, r0⟩ := trodAll_cons hA
  obtain ⟨rfl, rfl, rfl⟩ := trodAll_nil r0
  obtain rfl : args = #[v0] := by cases args; simp_all
  obtain ⟨rfl, rfl⟩ := trodVars_none hV
  obtain ⟨a0, len0, cap0, rfl⟩ := okWide_slice Tryd.underlying22 (hval 0 22 v0 rfl rfl)
  have k0 := h0
  have lt0 : ∀ x ∈ p0, x.block < W.heap.size := by obtain ⟨m, hm⟩ := k0; exact DataW.trod_lt m _ _ _ hm
  obtain ⟨z0, w0⟩ : ∃ zs, IsRow .u8 W a0 len0 cap0 zs := by
    obtain ⟨fuel, hf⟩ := h0
    rcases open_ints Tryd.underlying22 Tryd.underlying5 (by kernel_rfl) hf with ⟨hcs, _⟩ | ⟨x, l, c, zs, hcs, _, hl, hm, hz, _, hcell, hwz⟩
    · simp [Value.cells] at hcs
      obtain ⟨rfl, rfl, rfl⟩ := hcs
      exact ⟨[], .inl ⟨rfl, rfl, rfl, rfl⟩⟩
    · simp [Value.cells] at hcs
      obtain ⟨rfl, rfl, rfl⟩ := hcs
      exact ⟨zs, .inr ⟨_, rfl, hl, hm, by simpa using hz, hcell, hwz⟩⟩
  clear hA0 hval0
  refine (walk (.slice a0 len0 cap0) _ W ((Came.of_row w0).1) hT).mono fun e W' ⟨he, bel⟩ => ?_
  subst he
  exact ⟨_, rfl, _, _, _, [], _, [], hW', trodAll_mk1 (shut_bool Tryd.underlying4 _), (trodAll_cons_mk (Below.trod Tryd.laidOut (by kernel_rfl) (of_decide_eq_true (by kernel_rfl)) k0 bel lt0) trodAll_mk0), rfl, bel.frame _, fun h => by cases h⟩

theorem closed : joinedFacts Tryd.prog 3 Tryd.f3 Rows.fnJoinAddressSpec Rows.fnJoinAddressRow = true := by
  unfold joinedFacts
  repeat' (with_reducible refine band ?_ ?_)
  all_goals (with_reducible (first | exact Tryd.laidOut | exact kMaps | exact kStops | exact kKnobs | exact kHeard | exact kEnter | refine eqPlain ?_ | refine eqLift ?_ | refine eqMake ?_ | skip))
  all_goals (as_aux_lemma => kernel_rfl)

/-- The row -/
theorem row_holds : Rows.FnJoinAddressSaid :=
  OpenClaim.holds_of_wide 3 Tryd.f3 rfl rfl rfl rfl rfl rfl rfl ⟨rfl, rfl, rfl, rfl, rfl⟩ rfl rfl rfl rfl rfl (by as_aux_lemma => kernel_rfl) Tryd.func3 closed
    (of_decide_eq_true (by as_aux_lemma => kernel_rfl)) (by unfold Func.isWrapper; first | (rw [if_pos (by decide +kernel)]; kernel_rfl) | (rw [if_neg (by decide +kernel)]; exact ⟨rfl, rfl⟩))
    (fun os started H enc _ => lifted os started H enc)

set_option maxRecDepth 100000 in
/-- THE STATEMENT -/
theorem proved : Rows.FnJoinAddressCardSaid :=
  Claim7.holds_tied_plain_at .later [] [.data, .data, .data, .data, .pinned] true (true, "3a864b4685e6cea88bebef4558091b545bd973ee43f7e9a4cfd9b8a469ac3e59") false row_holds (fun _ h => by cases h) (by as_aux_lemma => kernel_rfl) (fun _ h => by cases h) fnJoinAddress_row_tie rfl ⟨rfl, rfl⟩ (by as_aux_lemma => kernel_rfl) rfl
    (fun f fn hf hfn => by
      obtain rfl : f = 3 := Option.some.inj ((show Tryd.prog.funcNamed "loop.example/proxyframes/laws.FnJoinAddress" = some 3 by kernel_rfl).symm.trans hf) |>.symm
      obtain rfl : fn = Tryd.f3 := (Option.some.inj (Tryd.func3.symm.trans hfn)).symm
      exact ⟨by kernel_rfl, fun j t ht => by
        rw [Tryd.params3] at ht
        have hm : t ∈ [22] := by simpa using Array.mem_of_getElem? ht
        have hall : ([22].all fun u => !Tryd.prog.wantsStandIn u) = true := by kernel_rfl
        exact (show Tryd.prog.wantsStandIn t = false by simpa using List.all_eq_true.1 hall t hm)⟩)
    (by as_aux_lemma => kernel_rfl)
end Go.Proofs.YtpcflkdeoafpeaaDoor.fnJoinAddress

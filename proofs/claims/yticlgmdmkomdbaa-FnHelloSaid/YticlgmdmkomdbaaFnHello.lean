/-
  Bytes have their methods: true for every code. Conditions: none.
-/
import Derived.Test.YticlgmdmkomdbaaKit
import Derived.Test.YticlgmdmkomdbaaDrawHello
import Derived.Test.YticlgmdmkomdbaaHelloFrom
import Derived.Test.YticlgmdmkomdbaaFromLaw2
namespace Go.Proofs.Yticlgmdmkomdbaa.fnHello
open Go.ChangeShapes Go.WideShapes Go.ChangeAt Go.RowKit

theorem back {a t : List Int} (h : methodsOk a = true) (ht : ∀ x ∈ t, 0 ≤ x ∧ x ≤ 255) (hl : t.length ≤ 100) :
    hfOk (helloL a ++ t) = true ∧ hfR (helloL a ++ t) = a ∧ hfC (helloL a ++ t) = ((helloL a).length : Int) := by
  obtain ⟨h1, h2, h3⟩ := hf_of_hello h ht hl
  have h4 := hfOk_three h1
  have h5 := h4.2.2
  refine ⟨h1, by rw [hfR, h1]; exact h2, ?_⟩
  rw [hfC, h1, ← h3]
  show 2 + (helloL a ++ t).getD 1 0 = _
  omega

set_option maxRecDepth 100000 in
set_option maxHeartbeats 4000000 in
theorem walk (v : Value) (bs : List Int) (w : World) (hv : Came .u8 w w.heap.size v bs) : Calls Try.prog 16 #[v] w fun e w' => e = .returned (.bool true) ∧ Below w.heap.size w w' := by
  have hv0 := Lib.hid hv
  obtain ⟨A, c, rfl, hc, hm, _, _⟩ := hv
  by_cases hl : 1048576 < bs.length
  · have hl' : (1048576 : Int) < (bs.length : Int) := by omega
    go_enter Try.func16, Try.ntmps16
    go_wp2_with fail
    go_ret
    exact ⟨rfl, Below.refl _ _⟩
  · have hl' : (bs.length : Int) ≤ 1048576 := by omega
    clear hl
    go_enter Try.func16, Try.ntmps16
    go_wp2_with fail
    refine (DrawHelloBytes_any _ bs w hv0.out).mono ?_
    rintro e w1 ⟨v1, a, rfl, i1, _, b1⟩
    have I1 := Lib.hid i1
    have B1 := Lib.hid b1
    clear i1 b1
    go_wp2_with fail
    refine (impl_HelloBytes_any _ a _ I1.out).mono ?_
    rintro e w2 ⟨v2, rfl, o2, b2⟩
    have O2 := Lib.hid o2
    have I2 := Lib.hid (I1.out.below b2)
    have B2 := Lib.hid (B1.out.trans (b2.mono B1.out.size))
    clear o2 b2 I1
    go_wp2_with fail
    refine (spec_HelloBytes_any _ a _ I2.out).mono ?_
    rintro e w3 ⟨v3, rfl, o3, b3⟩
    have O2' := Lib.hid (O2.out.below b3).ints.zero
    have O3 := Lib.hid o3.ints.zero
    have I3 := Lib.hid (I2.out.below b3)
    have B3 := Lib.hid (B2.out.trans (b3.mono B2.out.size))
    clear o3 b3 O2 I2
    cases ha : methodsOk a
    · obtain ⟨L, hL⟩ : ∃ L, helloL a = L := ⟨_, rfl⟩
      rw [hL] at O2' O3
      clear ha hL
      go_wp2_with fail
      refine (sameBytes_any _ _ L L _ O2'.out O3.out).mono ?_
      rintro e w4 ⟨rfl, n4, rfl⟩
      go_wp2_with fail
      refine (sameBytes_any _ _ L L _ (O2'.out.drewN _) (O3.out.drewN _)).mono ?_
      rintro e w5 ⟨rfl, n5, rfl⟩
      go_wp2_with fail
      go_ret
      exact ⟨rfl, below_drewN B3.out _⟩
    · have E1 := Lib.hid (back (t := []) ha (by simp) (by simp))
      have E2 := Lib.hid (back (t := [9]) ha (by simp) (by simp))
      have hlen := helloL_len a
      rw [List.append_nil] at E1
      obtain ⟨L, hL⟩ : ∃ L, helloL a = L := ⟨_, rfl⟩
      rw [hL] at O2' O3 E1 E2 hlen
      clear ha hL
      go_wp2_with fail
      refine (sameBytes_any _ _ L L _ O2'.out O3.out).mono ?_
      rintro e w4 ⟨rfl, n4, rfl⟩
      go_wp2_with fail
      refine (impl_HelloFrom_any _ L _ (O2'.out.drewN _)).mono ?_
      rintro e w5 ⟨v5, rfl, o5, b5⟩
      rw [E1.out.1, E1.out.2.2]
      rw [E1.out.2.1] at o5
      have O25 := Lib.hid ((O2'.out.drewN n4).below b5)
      have O5 := Lib.hid o5
      have I5 := Lib.hid ((I3.out.drewN n4).below b5)
      have B5 := Lib.hid ((below_drewN B3.out n4).trans (b5.mono (show _ ≤ _ from B3.out.size)))
      clear o5 b5 O2' O3 I3 B3
      obtain ⟨A2, c2, rfl, hc2, hm2, _⟩ := O25.out.open_
      go_wp2_with (first
        | (at_builtin; refine wp_ints rfl (.tmp 57) (.tmp 58) rfl rfl rfl (Own.lit w5 [] w5.heap.size (Nat.le_refl _) (by simp)) (O25.out.alloc _) (by simp; omega) (by simp) ?_; intro v6 w6 o6 b6 g6 k6)
        | (at_builtin; refine wp_ints rfl (.tmp 59) (.tmp 60) rfl rfl rfl (o6.alloc _) (lit1 _ 9) (by simp; omega) (by simp; have := b6.size; simp at this; omega) ?_; intro v7 w7 o7 b7 g7 k7))
      rw [List.nil_append] at o7
      have b56 := ((Below.refl w5.heap.size w5).alloc (Nat.le_refl _) (.cells #[] 3)).trans b6
      have BB := Lib.hid ((b56.alloc b56.size _).trans b7)
      have O7 := Lib.hid o7.ints.zero
      have I7 := Lib.hid (I5.out.below BB.out)
      have O57 := Lib.hid (O5.out.ints.zero.below BB.out)
      have B7 := Lib.hid (B5.out.trans (BB.out.mono B5.out.size))
      clear o6 b6 g6 k6 o7 b7 g7 k7 b56 O25
      refine (impl_HelloFrom_any _ (L ++ [9]) _ O7.out).mono ?_
      rintro e w8 ⟨v8, rfl, o8, b8⟩
      rw [E2.out.1, E2.out.2.2]
      rw [E2.out.2.1] at o8
      have I8 := Lib.hid (I7.out.below b8)
      have O58 := Lib.hid (O57.out.below b8)
      have O8 := Lib.hid o8.ints.zero
      have B8 := Lib.hid (B7.out.trans (b8.mono B7.out.size))
      clear o8 b8 I7 O57 O7
      go_wp2_with fail
      refine (sameBytes_any _ _ a a _ O58.out I8.out).mono ?_
      rintro e w9 ⟨rfl, n9, rfl⟩
      go_wp2_with fail
      refine (sameBytes_any _ _ a a _ (O8.out.drewN _) (I8.out.drewN _)).mono ?_
      rintro e w9 ⟨rfl, n10, rfl⟩
      go_wp2_with fail
      go_ret
      exact ⟨rfl, below_drewN B8.out _⟩
set_option maxRecDepth 100000 in
theorem lifted (os : Os) (started : os.Started) (H : Type) (enc : TypeId × Value → H) :
    ReturnsInHanded {} Try.checked os 16 .any (Rows.fnHelloSpec.pre6 enc Try.prog Try.f16 Rows.fnHelloRow.domain false) (Rows.fnHelloSpec.post enc Try.prog Try.f16 false true false false) := by
  refine returnsInHanded_of_change (C := Try.checked) Try.own started (by kernel_rfl) Try.func16
    (ChangeSpec.witness6 (enc := enc) (C := Try.checked) false ⟨#[], #[.slice none 0 0], []⟩ 8 (by kernel_rfl) (by kernel_rfl) (by kernel_rfl) (by kernel_rfl)) ?_
  intro W base args ds gs before hval0 hW hcnd _
  have hval : ∀ (j : Nat) t v, Try.f16.params[j]? = some t → args[j]? = some v → Value.okWide Try.prog W .any base t v := hval0
  have hW' := hW
  obtain ⟨p, q, hA0, hV, rfl, hfz, hnd⟩ := hW
  have hA : DataW.TrodAll enc Try.prog W 0 (fun _ => true) true Try.f16.params.toList args.toList ds p := hA0
  rw [Try.params16] at hA hval
  obtain ⟨v0, vs0, d0, ds0, p0, q0, hargs, rfl, rfl, h0, r0⟩ := trodAll_cons hA
  obtain ⟨rfl, rfl, rfl⟩ := trodAll_nil r0
  obtain rfl : args = #[v0] := by cases args; simp_all
  obtain ⟨rfl, rfl⟩ := trodVars_none hV
  obtain ⟨a0, len0, cap0, rfl⟩ := okWide_slice Try.underlying27 (hval 0 27 v0 rfl rfl)
  have k0 := h0
  have lt0 : ∀ x ∈ p0, x.block < W.heap.size := by obtain ⟨m, hm⟩ := k0; exact DataW.trod_lt m _ _ _ hm
  obtain ⟨z0, w0⟩ : ∃ zs, IsRow .u8 W a0 len0 cap0 zs := by
    obtain ⟨fuel, hf⟩ := h0
    rcases open_ints Try.underlying27 Try.underlying5 (by kernel_rfl) hf with ⟨hcs, _⟩ | ⟨x, l, c, zs, hcs, _, hl, hm, hz, _, hcell, hwz⟩
    · simp [Value.cells] at hcs
      obtain ⟨rfl, rfl, rfl⟩ := hcs
      exact ⟨[], .inl ⟨rfl, rfl, rfl, rfl⟩⟩
    · simp [Value.cells] at hcs
      obtain ⟨rfl, rfl, rfl⟩ := hcs
      exact ⟨zs, .inr ⟨_, rfl, hl, hm, by simpa using hz, hcell, hwz⟩⟩
  clear hA0 hval0
  refine (walk (.slice a0 len0 cap0) _ W ((Came.of_row w0).1)).mono fun e W' ⟨he, bel⟩ => ?_
  subst he
  exact ⟨_, rfl, _, _, _, [], _, [], hW', trodAll_mk1 (shut_bool Try.underlying4 _), (trodAll_cons_mk (Below.trod Try.laidOut (by kernel_rfl) (of_decide_eq_true (by kernel_rfl)) k0 bel lt0) trodAll_mk0), rfl, bel.frame _, fun h => by cases h⟩

theorem closed : joinedFacts Try.prog 16 Try.f16 Rows.fnHelloSpec Rows.fnHelloRow = true := by
  unfold joinedFacts
  repeat' (with_reducible refine band ?_ ?_)
  all_goals (with_reducible (first | exact Try.laidOut | exact kMaps | exact kStops | exact kKnobs | exact kHeard | exact kEnter | refine eqPlain ?_ | refine eqLift ?_ | refine eqMake ?_ | skip))
  all_goals (as_aux_lemma => kernel_rfl)

/-- THE STATEMENT -/
theorem proved : Rows.FnHelloSaid :=
  OpenClaim.holds_of_wide 16 Try.f16 rfl rfl rfl rfl rfl rfl rfl ⟨rfl, rfl, rfl, rfl, rfl⟩ rfl rfl rfl rfl rfl (by as_aux_lemma => kernel_rfl) Try.func16 closed
    (of_decide_eq_true (by as_aux_lemma => kernel_rfl)) (by unfold Func.isWrapper; first | (rw [if_pos (by decide +kernel)]; kernel_rfl) | (rw [if_neg (by decide +kernel)]; exact ⟨rfl, rfl⟩))
    (fun os started H enc _ => lifted os started H enc)
end Go.Proofs.Yticlgmdmkomdbaa.fnHello

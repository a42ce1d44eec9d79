/-
  A part of methods is none: true for every code. Conditions: none.
-/
import Derived.Test.YticlgmdmkomdbaaKit
import Derived.Test.YticlgmdmkomdbaaDrawHello
import Derived.Test.YticlgmdmkomdbaaHelloFrom
import Derived.Test.YticlgmdmkomdbaaFromLaw2
namespace Go.Proofs.Yticlgmdmkomdbaa.fnHelloCut
open Go.ChangeShapes Go.WideShapes Go.ChangeAt Go.RowKit

set_option maxRecDepth 100000 in
set_option maxHeartbeats 4000000 in
theorem walk (v : Value) (bs : List Int) (v' : Value) (ms : List Int) (w : World) (hv : Came .u8 w w.heap.size v bs) (hv' : Came .u8 w w.heap.size v' ms) : Calls Try.prog 17 #[v, v'] w fun e w' => e = .returned (.bool true) ∧ Below w.heap.size w w' := by
  have hv0 := Lib.hid hv
  obtain ⟨A, c, rfl, hc, hm, _, _⟩ := hv
  obtain ⟨A', c', rfl, hc', hm', _, _⟩ := hv'
  by_cases hl : 1048576 < bs.length
  · have hl' : (1048576 : Int) < (bs.length : Int) := by omega
    go_enter Try.func17, Try.ntmps17
    go_wp2_with fail
    go_ret
    exact ⟨rfl, Below.refl _ _⟩
  by_cases hl2 : 1048576 < ms.length
  · have hl' : (bs.length : Int) ≤ 1048576 := by omega
    have hl2' : (1048576 : Int) < (ms.length : Int) := by omega
    go_enter Try.func17, Try.ntmps17
    go_wp2_with fail
    go_ret
    exact ⟨rfl, Below.refl _ _⟩
  · have hl' : (bs.length : Int) ≤ 1048576 := by omega
    have hl2' : (ms.length : Int) ≤ 1048576 := by omega
    clear hl hl2
    go_enter Try.func17, Try.ntmps17
    go_wp2_with fail
    refine (DrawHelloBytes_any _ bs w hv0.out).mono ?_
    rintro e w1 ⟨v1, a, rfl, i1, _, b1⟩
    have I1 := Lib.hid i1
    have B1 := Lib.hid b1
    clear i1 b1
    go_wp2_with fail
    refine (impl_HelloBytes_any _ a _ I1.out).mono ?_
    rintro e w2 ⟨v2, rfl, o2, b2⟩
    have O2 := Lib.hid o2
    have I2 := Lib.hid (I1.out.below b2)
    have B2 := Lib.hid (B1.out.trans (b2.mono B1.out.size))
    clear o2 b2 I1
    go_wp2_with fail
    refine (spec_HelloBytes_any _ a _ I2.out).mono ?_
    rintro e w3 ⟨v3, rfl, o3, b3⟩
    have O2' := Lib.hid (O2.out.below b3)
    have O3 := Lib.hid o3.ints.zero
    have B3 := Lib.hid (B2.out.trans (b3.mono B2.out.size))
    clear o3 b3 O2 I2
    cases ha : methodsOk a
    · obtain ⟨L, hL⟩ : ∃ L, helloL a = L := ⟨_, rfl⟩
      rw [hL] at O2' O3
      clear ha hL
      go_wp2_with fail
      refine (sameBytes_any _ _ L L _ O2'.out.ints.zero O3.out).mono ?_
      rintro e w4 ⟨rfl, n4, rfl⟩
      go_wp2_with fail
      refine (sameBytes_any _ _ L L _ (O2'.out.ints.zero.drewN _) (O3.out.drewN _)).mono ?_
      rintro e w5 ⟨rfl, n5, rfl⟩
      go_wp2_with fail
      go_ret
      exact ⟨rfl, below_drewN B3.out _⟩
    · have hpos : 0 < (helloL a).length := by rw [helloL_ok ha]; simp
      have hlen := helloL_len a
      have E : Hid (∀ k, k < (helloL a).length → hfOk ((helloL a).take k) = false) := Lib.hid (fun k hk => hf_of_cut ha hk)
      obtain ⟨L, hL⟩ : ∃ L, helloL a = L := ⟨_, rfl⟩
      rw [hL] at O2' O3 E hpos hlen
      clear ha hL
      obtain ⟨A2, c2, rfl, hc2, hc3, hA2⟩ := O2'.out.form
      obtain ⟨b, rfl, hb1, hb2⟩ := hA2.resolve_left (fun h => by rw [h] at hpos; simp at hpos)
      obtain ⟨n, hn⟩ : ∃ n, L.length = n := ⟨_, rfl⟩
      obtain ⟨m, hmm⟩ : ∃ m, ms.length = m := ⟨_, rfl⟩
      have hk : m % n < n := Nat.mod_lt _ (by omega)
      have EM : Hid ((m : Int) % (n : Int) = ((m % n : Nat) : Int)) := Lib.hid (by simp)
      have EK := Lib.hid (E.out (m % n) (by rw [hn]; exact hk))
      have OK := Lib.hid (O2'.out.front (k := m % n) (by rw [hn]; omega))
      have HN := Lib.hid hn
      rw [hn] at hc3 hpos hlen ⊢
      rw [hmm] at hl2' ⊢
      obtain ⟨k, hkk⟩ : ∃ k, m % n = k := ⟨_, rfl⟩
      rw [hkk] at hk EM EK OK
      have EM2 : (m : Int).tmod (n : Int) = (k : Int) := by rw [Int.tmod_eq_emod_of_nonneg (Int.natCast_nonneg _)]; exact EM.out
      have EM3 : (m : Int) % (n : Int) = (k : Int) := EM.out
      have hkc : (k : Int) ≤ (c2 : Int) := by omega
      have hn1 : (1 : Int) ≤ (n : Int) := by omega
      have hn0 : ¬ n = 0 := by omega
      have O2n : Hid (Ints w3 0 (.slice (some ⟨b, 0, none⟩) n c2) L) := Lib.hid (by have h := O2'.out.ints.zero; rwa [hn] at h)
      clear hn hmm hkk hA2 O2' E
      go_wp2_with fail
      refine (sameBytes_any _ _ L L _ O2n.out O3.out).mono ?_
      rintro e w4 ⟨rfl, n4, rfl⟩
      go_wp2_with fail
      refine (impl_HelloFrom_any _ (L.take k) _ (OK.out.drewN n4).ints.zero).mono ?_
      rintro e w5 ⟨v5, rfl, o5, b5⟩
      rw [EK.out]
      have B5 := Lib.hid ((below_drewN B3.out n4).trans (b5.mono (show _ ≤ _ from B3.out.size)))
      clear o5 b5
      obtain ⟨q, hq⟩ : ∃ q, hfC (L.take k) = q := ⟨_, rfl⟩
      rw [hq]
      clear hq
      go_wp2_with fail
      go_ret
      exact ⟨rfl, B5.out⟩
set_option maxRecDepth 100000 in
theorem lifted (os : Os) (started : os.Started) (H : Type) (enc : TypeId × Value → H) :
    ReturnsInHanded {} Try.checked os 17 .any (Rows.fnHelloCutSpec.pre6 enc Try.prog Try.f17 Rows.fnHelloCutRow.domain false) (Rows.fnHelloCutSpec.post enc Try.prog Try.f17 false true false false) := by
  refine returnsInHanded_of_change (C := Try.checked) Try.own started (by kernel_rfl) Try.func17
    (ChangeSpec.witness6 (enc := enc) (C := Try.checked) false ⟨#[], #[.slice none 0 0, .slice none 0 0], []⟩ 8 (by kernel_rfl) (by kernel_rfl) (by kernel_rfl) (by kernel_rfl)) ?_
  intro W base args ds gs before hval0 hW hcnd _
  have hval : ∀ (j : Nat) t v, Try.f17.params[j]? = some t → args[j]? = some v → Value.okWide Try.prog W .any base t v := hval0
  have hW' := hW
  obtain ⟨p, q, hA0, hV, rfl, hfz, hnd⟩ := hW
  have hA : DataW.TrodAll enc Try.prog W 0 (fun _ => true) true Try.f17.params.toList args.toList ds p := hA0
  rw [Try.params17] at hA hval
  obtain ⟨v0, vs0, d0, ds0, p0, q0, hargs, rfl, rfl, h0, r0⟩ := trodAll_cons hA
  obtain ⟨v1, vs1, d1, ds1, p1, q1, rfl, rfl, rfl, h1, r1⟩ := trodAll_cons r0
  obtain ⟨rfl, rfl, rfl⟩ := trodAll_nil r1
  obtain rfl : args = #[v0, v1] := by cases args; simp_all
  obtain ⟨rfl, rfl⟩ := trodVars_none hV
  obtain ⟨a0, len0, cap0, rfl⟩ := okWide_slice Try.underlying27 (hval 0 27 v0 rfl rfl)
  have k0 := h0
  have lt0 : ∀ x ∈ p0, x.block < W.heap.size := by obtain ⟨m, hm⟩ := k0; exact DataW.trod_lt m _ _ _ hm
  obtain ⟨z0, w0⟩ : ∃ zs, IsRow .u8 W a0 len0 cap0 zs := by
    obtain ⟨fuel, hf⟩ := h0
    rcases open_ints Try.underlying27 Try.underlying5 (by kernel_rfl) hf with ⟨hcs, _⟩ | ⟨x, l, c, zs, hcs, _, hl, hm, hz, _, hcell, hwz⟩
    · simp [Value.cells] at hcs
      obtain ⟨rfl, rfl, rfl⟩ := hcs
      exact ⟨[], .inl ⟨rfl, rfl, rfl, rfl⟩⟩
    · simp [Value.cells] at hcs
      obtain ⟨rfl, rfl, rfl⟩ := hcs
      exact ⟨zs, .inr ⟨_, rfl, hl, hm, by simpa using hz, hcell, hwz⟩⟩
  obtain ⟨a1, len1, cap1, rfl⟩ := okWide_slice Try.underlying27 (hval 1 27 v1 rfl rfl)
  have k1 := h1
  have lt1 : ∀ x ∈ p1, x.block < W.heap.size := by obtain ⟨m, hm⟩ := k1; exact DataW.trod_lt m _ _ _ hm
  obtain ⟨z1, w1⟩ : ∃ zs, IsRow .u8 W a1 len1 cap1 zs := by
    obtain ⟨fuel, hf⟩ := h1
    rcases open_ints Try.underlying27 Try.underlying5 (by kernel_rfl) hf with ⟨hcs, _⟩ | ⟨x, l, c, zs, hcs, _, hl, hm, hz, _, hcell, hwz⟩
    · simp [Value.cells] at hcs
      obtain ⟨rfl, rfl, rfl⟩ := hcs
      exact ⟨[], .inl ⟨rfl, rfl, rfl, rfl⟩⟩
    · simp [Value.cells] at hcs
      obtain ⟨rfl, rfl, rfl⟩ := hcs
      exact ⟨zs, .inr ⟨_, rfl, hl, hm, by simpa using hz, hcell, hwz⟩⟩
  clear hA0 hval0
  refine (walk (.slice a0 len0 cap0) _ (.slice a1 len1 cap1) _ W ((Came.of_row w0).1) ((Came.of_row w1).1)).mono fun e W' ⟨he, bel⟩ => ?_
  subst he
  exact ⟨_, rfl, _, _, _, [], _, [], hW', trodAll_mk1 (shut_bool Try.underlying4 _), (trodAll_cons_mk (Below.trod Try.laidOut (by kernel_rfl) (of_decide_eq_true (by kernel_rfl)) k0 bel lt0) (trodAll_cons_mk (Below.trod Try.laidOut (by kernel_rfl) (of_decide_eq_true (by kernel_rfl)) k1 bel lt1) trodAll_mk0)), rfl, bel.frame _, fun h => by cases h⟩

theorem closed : joinedFacts Try.prog 17 Try.f17 Rows.fnHelloCutSpec Rows.fnHelloCutRow = true := by
  unfold joinedFacts
  repeat' (with_reducible refine band ?_ ?_)
  all_goals (with_reducible (first | exact Try.laidOut | exact kMaps | exact kStops | exact kKnobs | exact kHeard | exact kEnter | refine eqPlain ?_ | refine eqLift ?_ | refine eqMake ?_ | skip))
  all_goals (as_aux_lemma => kernel_rfl)

/-- THE STATEMENT -/
theorem proved : Rows.FnHelloCutSaid :=
  OpenClaim.holds_of_wide 17 Try.f17 rfl rfl rfl rfl rfl rfl rfl ⟨rfl, rfl, rfl, rfl, rfl⟩ rfl rfl rfl rfl rfl (by as_aux_lemma => kernel_rfl) Try.func17 closed
    (of_decide_eq_true (by as_aux_lemma => kernel_rfl)) (by unfold Func.isWrapper; first | (rw [if_pos (by decide +kernel)]; kernel_rfl) | (rw [if_neg (by decide +kernel)]; exact ⟨rfl, rfl⟩))
    (fun os started H enc _ => lifted os started H enc)
end Go.Proofs.Yticlgmdmkomdbaa.fnHelloCut

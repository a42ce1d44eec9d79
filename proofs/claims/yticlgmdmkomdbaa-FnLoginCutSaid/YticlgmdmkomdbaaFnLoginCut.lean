/-
  A part of a login is none: true for every code. Conditions: none.
-/
import Derived.Test.YticlgmdmkomdbaaKit
import Derived.Test.YticlgmdmkomdbaaDrawLogin
import Derived.Test.YticlgmdmkomdbaaLoginBytes2
import Derived.Test.YticlgmdmkomdbaaLoginFrom
import Derived.Test.YticlgmdmkomdbaaFromLaw2
namespace Go.Proofs.Yticlgmdmkomdbaa.fnLoginCut
open Go.ChangeShapes Go.WideShapes Go.ChangeAt Go.RowKit

set_option maxRecDepth 100000 in
set_option maxHeartbeats 4000000 in
theorem walk (v : Value) (bs : List Int) (v' : Value) (ms : List Int) (w : World) (hv : Came .u8 w w.heap.size v bs) (hv' : Came .u8 w w.heap.size v' ms) : Calls Try.prog 20 #[v, v'] w fun e w' => e = .returned (.bool true) ∧ Below w.heap.size w w' := by
  have hv0 := Lib.hid hv
  obtain ⟨A, c, rfl, hc, hm, _, _⟩ := hv
  obtain ⟨A', c', rfl, hc', hm', _, _⟩ := hv'
  by_cases hl : 1048576 < bs.length
  · have hl' : (1048576 : Int) < (bs.length : Int) := by omega
    go_enter Try.func20, Try.ntmps20
    go_wp2_with fail
    go_ret
    exact ⟨rfl, Below.refl _ _⟩
  by_cases hl2 : 1048576 < ms.length
  · have hl' : (bs.length : Int) ≤ 1048576 := by omega
    have hl2' : (1048576 : Int) < (ms.length : Int) := by omega
    go_enter Try.func20, Try.ntmps20
    go_wp2_with fail
    go_ret
    exact ⟨rfl, Below.refl _ _⟩
  · have hl' : (bs.length : Int) ≤ 1048576 := by omega
    have hl2' : (ms.length : Int) ≤ 1048576 := by omega
    clear hl hl2
    go_enter Try.func20, Try.ntmps20
    go_wp2_with fail
    refine (DrawLoginBytes_any _ bs w hv0.out).mono ?_
    rintro e w1 ⟨x, y, rfl, hx, hy, b1⟩
    have hxm : x.size ≤ maxLen := by unfold maxLen; omega
    have hym : y.size ≤ maxLen := by unfold maxLen; omega
    have HX := Lib.hid hxm
    have HY := Lib.hid hym
    have K1 := Lib.hid (Blk.new w1 31 #[.string x, .string y])
    have B1 := Lib.hid (b1.alloc b1.size (.cells #[.string x, .string y] 31))
    clear b1 hxm hym
    go_wp2_with fail
    refine (impl_LoginBytes_any x y _ HX.out HY.out).mono ?_
    rintro e w2 ⟨v2, rfl, o2, b2⟩
    have K2 := Lib.hid (K1.out.kept b2)
    have O2 := Lib.hid o2
    have B2 := Lib.hid (B1.out.trans (b2.mono B1.out.size))
    have a0 : w2.cell? ⟨w1.heap.size, 0, none⟩ = some (.string x) := K2.out.cell 0
    have a1 : w2.cell? ⟨w1.heap.size, 1, none⟩ = some (.string y) := K2.out.cell 1
    clear o2 b2 K1
    go_wp2_with fail
    refine (spec_LoginBytes_any x y _ HX.out HY.out).mono ?_
    rintro e w3 ⟨v3, rfl, o3, b3⟩
    have K3 := K2.out.kept b3
    have O23 := Lib.hid (O2.out.below b3)
    have O3 := Lib.hid o3.ints.zero
    have B3 := Lib.hid (B2.out.trans (b3.mono B2.out.size))
    have c0 : w3.cell? ⟨w1.heap.size, 0, none⟩ = some (.string x) := K3.cell 0
    have c1 : w3.cell? ⟨w1.heap.size, 1, none⟩ = some (.string y) := K3.cell 1
    clear o3 b3 K3 K2 O2 a0 a1
    cases ha : loginOk x y
    · obtain ⟨L, hL⟩ : ∃ L, loginL x y = L := ⟨_, rfl⟩
      rw [hL] at O23 O3
      clear ha hL
      go_wp2_with fail
      refine (sameBytes_any _ _ L L _ O23.out.ints.zero O3.out).mono ?_
      rintro e w4 ⟨rfl, n4, rfl⟩
      go_wp2_with fail
      refine (sameBytes_any _ _ L L _ (O23.out.ints.zero.drewN _) (O3.out.drewN _)).mono ?_
      rintro e w5 ⟨rfl, n5, rfl⟩
      go_wp2_with fail
      go_ret
      exact ⟨rfl, below_drewN B3.out _⟩
    · have hpos : 0 < (loginL x y).length := by rw [loginL_ok ha, loginB_length]; omega
      have hlen : (loginL x y).length ≤ 30 := by rw [loginL_ok ha, loginB_length]; omega
      have E : Hid (∀ k, k < (loginL x y).length → lfT ((loginL x y).take k) = .tuple #[.agg #[.string ByteArray.empty, .string ByteArray.empty], .int .i64 0, .bool false]) := Lib.hid (fun k hk => lf_not (by rw [loginL_ok ha] at hk ⊢; exact lf_of_cut hk))
      obtain ⟨L, hL⟩ : ∃ L, loginL x y = L := ⟨_, rfl⟩
      rw [hL] at O23 O3 E hpos hlen
      clear ha hL
      obtain ⟨A2, c2, rfl, hc2, hc3, hA2⟩ := O23.out.form
      obtain ⟨b, rfl, hb1, hb2⟩ := hA2.resolve_left (fun h => by rw [h] at hpos; simp at hpos)
      obtain ⟨n, hn⟩ : ∃ n, L.length = n := ⟨_, rfl⟩
      obtain ⟨m, hmm⟩ : ∃ m, ms.length = m := ⟨_, rfl⟩
      have hk : m % n < n := Nat.mod_lt _ (by omega)
      have EM : Hid ((m : Int) % (n : Int) = ((m % n : Nat) : Int)) := Lib.hid (by simp)
      have EK := Lib.hid (E.out (m % n) (by rw [hn]; exact hk))
      have OK := Lib.hid (O23.out.front (k := m % n) (by rw [hn]; omega))
      have HN := Lib.hid hn
      rw [hn] at hc3 hpos hlen ⊢
      rw [hmm] at hl2' ⊢
      obtain ⟨k, hkk⟩ : ∃ k, m % n = k := ⟨_, rfl⟩
      rw [hkk] at hk EM EK OK
      have EM2 : (m : Int).tmod (n : Int) = (k : Int) := by rw [Int.tmod_eq_emod_of_nonneg (Int.natCast_nonneg _)]; exact EM.out
      have EM3 : (m : Int) % (n : Int) = (k : Int) := EM.out
      have hkc : (k : Int) ≤ (c2 : Int) := by omega
      have hn1 : (1 : Int) ≤ (n : Int) := by omega
      have hn0 : ¬ n = 0 := by omega
      have O2n : Hid (Ints w3 0 (.slice (some ⟨b, 0, none⟩) n c2) L) := Lib.hid (by have h := O23.out.ints.zero; rwa [hn] at h)
      clear hn hmm hkk hA2 O23 E
      go_wp2_with fail
      refine (sameBytes_any _ _ L L _ O2n.out O3.out).mono ?_
      rintro e w4 ⟨rfl, n4, rfl⟩
      go_wp2_with fail
      refine (impl_LoginFrom_any _ (L.take k) _ (OK.out.drewN n4).ints.zero).mono ?_
      rintro e w5 ⟨rfl, b5⟩
      rw [EK.out]
      have B5 := Lib.hid ((below_drewN B3.out n4).trans (b5.mono (show _ ≤ _ from B3.out.size)))
      clear b5
      go_wp2_with fail
      go_ret
      exact ⟨rfl, B5.out.alloc B5.out.size _⟩
set_option maxRecDepth 100000 in
theorem lifted (os : Os) (started : os.Started) (H : Type) (enc : TypeId × Value → H) :
    ReturnsInHanded {} Try.checked os 20 .any (Rows.fnLoginCutSpec.pre6 enc Try.prog Try.f20 Rows.fnLoginCutRow.domain false) (Rows.fnLoginCutSpec.post enc Try.prog Try.f20 false true false false) := by
  refine returnsInHanded_of_change (C := Try.checked) Try.own started (by kernel_rfl) Try.func20
    (ChangeSpec.witness6 (enc := enc) (C := Try.checked) false ⟨#[], #[.slice none 0 0, .slice none 0 0], []⟩ 8 (by kernel_rfl) (by kernel_rfl) (by kernel_rfl) (by kernel_rfl)) ?_
  intro W base args ds gs before hval0 hW hcnd _
  have hval : ∀ (j : Nat) t v, Try.f20.params[j]? = some t → args[j]? = some v → Value.okWide Try.prog W .any base t v := hval0
  have hW' := hW
  obtain ⟨p, q, hA0, hV, rfl, hfz, hnd⟩ := hW
  have hA : DataW.TrodAll enc Try.prog W 0 (fun _ => true) true Try.f20.params.toList args.toList ds p := hA0
  rw [Try.params20] at hA hval
  obtain ⟨v0, vs0, d0, ds0, p0, q0, hargs, rfl, rfl, h0, r0⟩ := trodAll_cons hA
  obtain ⟨v1, vs1, d1, ds1, p1, q1, rfl, rfl, rfl, h1, r1⟩ := trodAll_cons r0
  obtain ⟨rfl, rfl, rfl⟩ := trodAll_nil r1
  obtain rfl : args = #[v0, v1] := by cases args; simp_all
  obtain ⟨rfl, rfl⟩ := trodVars_none hV
  obtain ⟨a0, len0, cap0, rfl⟩ := okWide_slice Try.underlying27 (hval 0 27 v0 rfl rfl)
  have k0 := h0
  have lt0 : ∀ x ∈ p0, x.block < W.heap.size := by obtain ⟨m, hm⟩ := k0; exact DataW.trod_lt m _ _ _ hm
  obtain ⟨z0, w0⟩ : ∃ zs, IsRow .u8 W a0 len0 cap0 zs := by
    obtain ⟨fuel, hf⟩ := h0
    rcases open_ints Try.underlying27 Try.underlying5 (by kernel_rfl) hf with ⟨hcs, _⟩ | ⟨x, l, c, zs, hcs, _, hl, hm, hz, _, hcell, hwz⟩
    · simp [Value.cells] at hcs
      obtain ⟨rfl, rfl, rfl⟩ := hcs
      exact ⟨[], .inl ⟨rfl, rfl, rfl, rfl⟩⟩
    · simp [Value.cells] at hcs
      obtain ⟨rfl, rfl, rfl⟩ := hcs
      exact ⟨zs, .inr ⟨_, rfl, hl, hm, by simpa using hz, hcell, hwz⟩⟩
  obtain ⟨a1, len1, cap1, rfl⟩ := okWide_slice Try.underlying27 (hval 1 27 v1 rfl rfl)
  have k1 := h1
  have lt1 : ∀ x ∈ p1, x.block < W.heap.size := by obtain ⟨m, hm⟩ := k1; exact DataW.trod_lt m _ _ _ hm
  obtain ⟨z1, w1⟩ : ∃ zs, IsRow .u8 W a1 len1 cap1 zs := by
    obtain ⟨fuel, hf⟩ := h1
    rcases open_ints Try.underlying27 Try.underlying5 (by kernel_rfl) hf with ⟨hcs, _⟩ | ⟨x, l, c, zs, hcs, _, hl, hm, hz, _, hcell, hwz⟩
    · simp [Value.cells] at hcs
      obtain ⟨rfl, rfl, rfl⟩ := hcs
      exact ⟨[], .inl ⟨rfl, rfl, rfl, rfl⟩⟩
    · simp [Value.cells] at hcs
      obtain ⟨rfl, rfl, rfl⟩ := hcs
      exact ⟨zs, .inr ⟨_, rfl, hl, hm, by simpa using hz, hcell, hwz⟩⟩
  clear hA0 hval0
  refine (walk (.slice a0 len0 cap0) _ (.slice a1 len1 cap1) _ W ((Came.of_row w0).1) ((Came.of_row w1).1)).mono fun e W' ⟨he, bel⟩ => ?_
  subst he
  exact ⟨_, rfl, _, _, _, [], _, [], hW', trodAll_mk1 (shut_bool Try.underlying4 _), (trodAll_cons_mk (Below.trod Try.laidOut (by kernel_rfl) (of_decide_eq_true (by kernel_rfl)) k0 bel lt0) (trodAll_cons_mk (Below.trod Try.laidOut (by kernel_rfl) (of_decide_eq_true (by kernel_rfl)) k1 bel lt1) trodAll_mk0)), rfl, bel.frame _, fun h => by cases h⟩

theorem closed : joinedFacts Try.prog 20 Try.f20 Rows.fnLoginCutSpec Rows.fnLoginCutRow = true := by
  unfold joinedFacts
  repeat' (with_reducible refine band ?_ ?_)
  all_goals (with_reducible (first | exact Try.laidOut | exact kMaps | exact kStops | exact kKnobs | exact kHeard | exact kEnter | refine eqPlain ?_ | refine eqLift ?_ | refine eqMake ?_ | skip))
  all_goals (as_aux_lemma => kernel_rfl)

/-- THE STATEMENT -/
theorem proved : Rows.FnLoginCutSaid :=
  OpenClaim.holds_of_wide 20 Try.f20 rfl rfl rfl rfl rfl rfl rfl ⟨rfl, rfl, rfl, rfl, rfl⟩ rfl rfl rfl rfl rfl (by as_aux_lemma => kernel_rfl) Try.func20 closed
    (of_decide_eq_true (by as_aux_lemma => kernel_rfl)) (by unfold Func.isWrapper; first | (rw [if_pos (by decide +kernel)]; kernel_rfl) | (rw [if_neg (by decide +kernel)]; exact ⟨rfl, rfl⟩))
    (fun os started H enc _ => lifted os started H enc)
end Go.Proofs.Yticlgmdmkomdbaa.fnLoginCut

/-
  A login has its own version: true for every code. Conditions: none.
-/
import Derived.Test.YticlgmdmkomdbaaKit
import Derived.Test.YticlgmdmkomdbaaDrawLogin
import Derived.Test.YticlgmdmkomdbaaLoginBytes2
import Derived.Test.YticlgmdmkomdbaaLoginFrom
import Derived.Test.YticlgmdmkomdbaaFromLaw2
namespace Go.Proofs.Yticlgmdmkomdbaa.fnLoginVersion
open Go.ChangeShapes Go.WideShapes Go.ChangeAt Go.RowKit

set_option maxRecDepth 100000 in
set_option maxHeartbeats 4000000 in
theorem walk (v : Value) (bs : List Int) (w : World) (hv : Came .u8 w w.heap.size v bs) : Calls Try.prog 21 #[v] w fun e w' => e = .returned (.bool true) ∧ Below w.heap.size w w' := by
  have hv0 := Lib.hid hv
  obtain ⟨A, c, rfl, hc, hm, _, _⟩ := hv
  by_cases hl : 1048576 < bs.length
  · have hl' : (1048576 : Int) < (bs.length : Int) := by omega
    go_enter Try.func21, Try.ntmps21
    go_wp2_with fail
    go_ret
    exact ⟨rfl, Below.refl _ _⟩
  · have hl' : (bs.length : Int) ≤ 1048576 := by omega
    clear hl
    go_enter Try.func21, Try.ntmps21
    go_wp2_with fail
    refine (DrawLoginBytes_any _ bs w hv0.out).mono ?_
    rintro e w1 ⟨x, y, rfl, hx, hy, b1⟩
    have hxm : x.size ≤ maxLen := by unfold maxLen; omega
    have hym : y.size ≤ maxLen := by unfold maxLen; omega
    have HX := Lib.hid hxm
    have HY := Lib.hid hym
    have K1 := Lib.hid (Blk.new w1 31 #[.string x, .string y])
    have B1 := Lib.hid (b1.alloc b1.size (.cells #[.string x, .string y] 31))
    clear b1 hxm hym
    go_wp2_with fail
    refine (impl_LoginBytes_any x y _ HX.out HY.out).mono ?_
    rintro e w2 ⟨v2, rfl, o2, b2⟩
    have K2 := Lib.hid (K1.out.kept b2)
    have O2 := Lib.hid o2
    have B2 := Lib.hid (B1.out.trans (b2.mono B1.out.size))
    have a0 : w2.cell? ⟨w1.heap.size, 0, none⟩ = some (.string x) := K2.out.cell 0
    have a1 : w2.cell? ⟨w1.heap.size, 1, none⟩ = some (.string y) := K2.out.cell 1
    clear o2 b2 K1
    go_wp2_with fail
    refine (spec_LoginBytes_any x y _ HX.out HY.out).mono ?_
    rintro e w3 ⟨v3, rfl, o3, b3⟩
    have K3 := K2.out.kept b3
    have O23 := Lib.hid (O2.out.below b3)
    have O3 := Lib.hid o3.ints.zero
    have B3 := Lib.hid (B2.out.trans (b3.mono B2.out.size))
    have c0 : w3.cell? ⟨w1.heap.size, 0, none⟩ = some (.string x) := K3.cell 0
    have c1 : w3.cell? ⟨w1.heap.size, 1, none⟩ = some (.string y) := K3.cell 1
    clear o3 b3 K3 K2 O2 a0 a1
    cases hok : loginOk x y
    · obtain ⟨L, hL⟩ : ∃ L, loginL x y = L := ⟨_, rfl⟩
      rw [hL] at O23 O3
      clear hok hL
      go_wp2_with fail
      refine (sameBytes_any _ _ L L _ O23.out.ints.zero O3.out).mono ?_
      rintro e w4 ⟨rfl, n4, rfl⟩
      go_wp2_with fail
      refine (sameBytes_any _ _ L L _ (O23.out.ints.zero.drewN _) (O3.out.drewN _)).mono ?_
      rintro e w5 ⟨rfl, n5, rfl⟩
      go_wp2_with fail
      go_ret
      exact ⟨rfl, below_drewN B3.out _⟩
    · have hlen : (loginL x y).length = 3 + x.size + y.size := by rw [loginL_ok hok, loginB_length]
      obtain ⟨L, hL⟩ : ∃ L, loginL x y = L := ⟨_, rfl⟩
      rw [hL] at O23 O3 hlen
      have hlen2 : L.length ≤ 100 := by omega
      have hlen3 : 1 ≤ L.length := by omega
      obtain ⟨A2, c2, rfl, hc2, hm2, hA2⟩ := O23.out.form
      obtain ⟨b, rfl, hb1, hb2⟩ := hA2.resolve_left (fun h => by rw [h] at hlen; simp at hlen; omega)
      obtain ⟨A3, c3, he, _, _, hA3⟩ := O23.out.ints.open_
      injection he with e1 e2 e3
      subst e1
      obtain ⟨b', o', e4, _, _, hs⟩ := hA3.resolve_left (fun h => by rw [h] at hlen; simp at hlen; omega)
      injection e4 with e4
      injection e4 with e5 e6
      subst e5 e6
      obtain ⟨n, hn⟩ : ∃ n, L.length = n := ⟨_, rfl⟩
      have I3 := Lib.hid O23.out.ints.zero
      have IP : Hid (Ints w3 0 (.slice (some ⟨b, 1, none⟩) (n - 1) (c2 - 1)) ((L.drop 1).take (n - 1))) := Lib.hid (by
        have h := Ints.part (i := 1) (m := n - 1) (c := c2 - 1) hs (by omega) (by omega) (by omega)
        rwa [Nat.zero_add] at h)
      have hn5 : 3 ≤ n := by omega
      rw [hn] at I3 hlen2 hlen3 hm2 ⊢
      have hpl : Hid (((L.drop 1).take (n - 1)).length ≤ 100) := Lib.hid (by rw [List.length_take]; omega)
      have EV : Hid (lfT ([5] ++ (L.drop 1).take (n - 1)) = .tuple #[.agg #[.string ByteArray.empty, .string ByteArray.empty], .int .i64 0, .bool false]) := Lib.hid (lf_not (lf_of_version (by show (5 : Int) ≠ 1; omega)))
      have hc1 : ¬ c2 = 1 := by omega
      have hn1 : (1 : Int) ≤ (n : Int) := by omega
      have hnc : (n : Int) ≤ (c2 : Int) := by omega
      clear hok hL hlen O23 hA2 hA3 hs e2 e3 hn
      go_wp2_with fail
      refine (sameBytes_any _ _ L L _ I3.out O3.out).mono ?_
      rintro e w4 ⟨rfl, n4, rfl⟩
      go_wp2_with (at_builtin; refine wp_ints rfl (.tmp 48) (.tmp 50) rfl rfl rfl (Own.lit (w3.drewN n4) [5] (w3.drewN n4).heap.size (Nat.le_refl _) (by simp)) ((IP.out.drewN n4).alloc _) (by have := hpl.out; simp only [List.length_singleton]; omega) (by simp) ?_; intro v5 w5 o5 b5 g5 k5)
      have O5 := Lib.hid o5.ints.zero
      have B5 := Lib.hid (((below_drewN B3.out n4).alloc (show _ ≤ _ from B3.out.size) (.cells #[.int .i64 5] 3)).trans (b5.mono (show _ ≤ _ from B3.out.size)))
      clear o5 b5 g5 k5
      refine (impl_LoginFrom_any _ ([5] ++ (L.drop 1).take (n - 1)) _ O5.out).mono ?_
      rintro e w6 ⟨rfl, b6⟩
      rw [EV.out]
      have B6 := Lib.hid (B5.out.trans (b6.mono B5.out.size))
      clear b6
      go_wp2_with fail
      go_ret
      exact ⟨rfl, B6.out.alloc B6.out.size _⟩
set_option maxRecDepth 100000 in
theorem lifted (os : Os) (started : os.Started) (H : Type) (enc : TypeId × Value → H) :
    ReturnsInHanded {} Try.checked os 21 .any (Rows.fnLoginVersionSpec.pre6 enc Try.prog Try.f21 Rows.fnLoginVersionRow.domain false) (Rows.fnLoginVersionSpec.post enc Try.prog Try.f21 false true false false) := by
  refine returnsInHanded_of_change (C := Try.checked) Try.own started (by kernel_rfl) Try.func21
    (ChangeSpec.witness6 (enc := enc) (C := Try.checked) false ⟨#[], #[.slice none 0 0], []⟩ 8 (by kernel_rfl) (by kernel_rfl) (by kernel_rfl) (by kernel_rfl)) ?_
  intro W base args ds gs before hval0 hW hcnd _
  have hval : ∀ (j : Nat) t v, Try.f21.params[j]? = some t → args[j]? = some v → Value.okWide Try.prog W .any base t v := hval0
  have hW' := hW
  obtain ⟨p, q, hA0, hV, rfl, hfz, hnd⟩ := hW
  have hA : DataW.TrodAll enc Try.prog W 0 (fun _ => true) true Try.f21.params.toList args.toList ds p := hA0
  rw [Try.params21] at hA hval
  obtain ⟨v0, vs0, d0, ds0, p0, q0, hargs, rfl, rfl, h0, r0⟩ := trodAll_cons hA
  obtain ⟨rfl, rfl, rfl⟩ := trodAll_nil r0
  obtain rfl : args = #[v0] := by cases args; simp_all
  obtain ⟨rfl, rfl⟩ := trodVars_none hV
  obtain ⟨a0, len0, cap0, rfl⟩ := okWide_slice Try.underlying27 (hval 0 27 v0 rfl rfl)
  have k0 := h0
  have lt0 : ∀ x ∈ p0, x.block < W.heap.size := by obtain ⟨m, hm⟩ := k0; exact DataW.trod_lt m _ _ _ hm
  obtain ⟨z0, w0⟩ : ∃ zs, IsRow .u8 W a0 len0 cap0 zs := by
    obtain ⟨fuel, hf⟩ := h0
    rcases open_ints Try.underlying27 Try.underlying5 (by kernel_rfl) hf with ⟨hcs, _⟩ | ⟨x, l, c, zs, hcs, _, hl, hm, hz, _, hcell, hwz⟩
    · simp [Value.cells] at hcs
      obtain ⟨rfl, rfl, rfl⟩ := hcs
      exact ⟨[], .inl ⟨rfl, rfl, rfl, rfl⟩⟩
    · simp [Value.cells] at hcs
      obtain ⟨rfl, rfl, rfl⟩ := hcs
      exact ⟨zs, .inr ⟨_, rfl, hl, hm, by simpa using hz, hcell, hwz⟩⟩
  clear hA0 hval0
  refine (walk (.slice a0 len0 cap0) _ W ((Came.of_row w0).1)).mono fun e W' ⟨he, bel⟩ => ?_
  subst he
  exact ⟨_, rfl, _, _, _, [], _, [], hW', trodAll_mk1 (shut_bool Try.underlying4 _), (trodAll_cons_mk (Below.trod Try.laidOut (by kernel_rfl) (of_decide_eq_true (by kernel_rfl)) k0 bel lt0) trodAll_mk0), rfl, bel.frame _, fun h => by cases h⟩

theorem closed : joinedFacts Try.prog 21 Try.f21 Rows.fnLoginVersionSpec Rows.fnLoginVersionRow = true := by
  unfold joinedFacts
  repeat' (with_reducible refine band ?_ ?_)
  all_goals (with_reducible (first | exact Try.laidOut | exact kMaps | exact kStops | exact kKnobs | exact kHeard | exact kEnter | refine eqPlain ?_ | refine eqLift ?_ | refine eqMake ?_ | skip))
  all_goals (as_aux_lemma => kernel_rfl)

/-- THE STATEMENT -/
theorem proved : Rows.FnLoginVersionSaid :=
  OpenClaim.holds_of_wide 21 Try.f21 rfl rfl rfl rfl rfl rfl rfl ⟨rfl, rfl, rfl, rfl, rfl⟩ rfl rfl rfl rfl rfl (by as_aux_lemma => kernel_rfl) Try.func21 closed
    (of_decide_eq_true (by as_aux_lemma => kernel_rfl)) (by unfold Func.isWrapper; first | (rw [if_pos (by decide +kernel)]; kernel_rfl) | (rw [if_neg (by decide +kernel)]; exact ⟨rfl, rfl⟩))
    (fun os started H enc _ => lifted os started H enc)
end Go.Proofs.Yticlgmdmkomdbaa.fnLoginVersion

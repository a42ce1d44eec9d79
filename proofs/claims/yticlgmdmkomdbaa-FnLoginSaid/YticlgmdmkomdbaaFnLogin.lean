/-
  Bytes have their login: true for every code. Conditions: none.
-/
import Derived.Test.YticlgmdmkomdbaaKit
import Derived.Test.YticlgmdmkomdbaaDrawLogin
import Derived.Test.YticlgmdmkomdbaaLoginBytes2
import Derived.Test.YticlgmdmkomdbaaLoginFrom
import Derived.Test.YticlgmdmkomdbaaFromLaw2
namespace Go.Proofs.Yticlgmdmkomdbaa.fnLogin
open Go.ChangeShapes Go.WideShapes Go.ChangeAt Go.RowKit

theorem own_0 {W : World} {g base : Nat} (hg : g = W.heap.size) (hb : base ≤ W.heap.size) : Own (W.alloc (.cells #[] 3)) base (.slice (some ⟨g, 0, none⟩) 0 0) [] := by
  subst hg
  exact Own.lit W [] base hb (by simp)
theorem back {u v : ByteArray} {t : List Int} (h : loginOk u v = true) (ht : ∀ x ∈ t, 0 ≤ x ∧ x ≤ 255) (hl : t.length ≤ 90) :
    lfT (loginL u v ++ t) = .tuple #[.agg #[.string u, .string v], .int .i64 ((loginL u v).length : Int), .bool true] := by
  rw [loginL_ok h]
  obtain ⟨h1, h2, h3, h4⟩ := lf_of_login h ht hl
  rw [lf_yes h1, h2, h3, h4]

set_option maxRecDepth 100000 in
set_option maxHeartbeats 4000000 in
theorem walk (v : Value) (bs : List Int) (w : World) (hv : Came .u8 w w.heap.size v bs) : Calls Try.prog 19 #[v] w fun e w' => e = .returned (.bool true) ∧ Below w.heap.size w w' := by
  have hv0 := Lib.hid hv
  obtain ⟨A, c, rfl, hc, hm, _, _⟩ := hv
  by_cases hl : 1048576 < bs.length
  · have hl' : (1048576 : Int) < (bs.length : Int) := by omega
    go_enter Try.func19, Try.ntmps19
    go_wp2_with fail
    go_ret
    exact ⟨rfl, Below.refl _ _⟩
  · have hl' : (bs.length : Int) ≤ 1048576 := by omega
    clear hl
    go_enter Try.func19, Try.ntmps19
    go_wp2_with fail
    refine (DrawLoginBytes_any _ bs w hv0.out).mono ?_
    rintro e w1 ⟨x, y, rfl, hx, hy, b1⟩
    have hxm : x.size ≤ maxLen := by unfold maxLen; omega
    have hym : y.size ≤ maxLen := by unfold maxLen; omega
    have HX := Lib.hid hxm
    have HY := Lib.hid hym
    have K1 := Lib.hid (Blk.new w1 31 #[.string x, .string y])
    have B1 := Lib.hid (b1.alloc b1.size (.cells #[.string x, .string y] 31))
    clear b1 hxm hym
    go_wp2_with fail
    refine (impl_LoginBytes_any x y _ HX.out HY.out).mono ?_
    rintro e w2 ⟨v2, rfl, o2, b2⟩
    have K2 := Lib.hid (K1.out.kept b2)
    have O2 := Lib.hid o2
    have B2 := Lib.hid (B1.out.trans (b2.mono B1.out.size))
    have a0 : w2.cell? ⟨w1.heap.size, 0, none⟩ = some (.string x) := K2.out.cell 0
    have a1 : w2.cell? ⟨w1.heap.size, 1, none⟩ = some (.string y) := K2.out.cell 1
    clear o2 b2 K1
    go_wp2_with fail
    refine (spec_LoginBytes_any x y _ HX.out HY.out).mono ?_
    rintro e w3 ⟨v3, rfl, o3, b3⟩
    have K3 := K2.out.kept b3
    have O23 := Lib.hid (O2.out.below b3)
    have O3 := Lib.hid o3.ints.zero
    have B3 := Lib.hid (B2.out.trans (b3.mono B2.out.size))
    have c0 : w3.cell? ⟨w1.heap.size, 0, none⟩ = some (.string x) := K3.cell 0
    have c1 : w3.cell? ⟨w1.heap.size, 1, none⟩ = some (.string y) := K3.cell 1
    have KK := Lib.hid K3
    clear o3 b3 K3 K2 O2 a0 a1
    cases hok : loginOk x y
    · obtain ⟨L, hL⟩ : ∃ L, loginL x y = L := ⟨_, rfl⟩
      rw [hL] at O23 O3
      clear hok hL
      go_wp2_with fail
      refine (sameBytes_any _ _ L L _ O23.out.ints.zero O3.out).mono ?_
      rintro e w4 ⟨rfl, n4, rfl⟩
      go_wp2_with fail
      refine (sameBytes_any _ _ L L _ (O23.out.ints.zero.drewN _) (O3.out.drewN _)).mono ?_
      rintro e w5 ⟨rfl, n5, rfl⟩
      go_wp2_with fail
      go_ret
      exact ⟨rfl, below_drewN B3.out _⟩
    · have E1 := Lib.hid (back (t := []) hok (by simp) (by simp))
      have E2 := Lib.hid (back (t := [9]) hok (by simp) (by simp))
      have hlen : (loginL x y).length = 3 + x.size + y.size := by rw [loginL_ok hok, loginB_length]
      rw [List.append_nil] at E1
      obtain ⟨L, hL⟩ : ∃ L, loginL x y = L := ⟨_, rfl⟩
      rw [hL] at O23 O3 E1 E2 hlen
      have I3 := Lib.hid O23.out.ints.zero
      have hlen2 : L.length ≤ 100 := by omega
      clear hok hL hlen O23
      go_wp2_with fail
      refine (sameBytes_any _ _ L L _ I3.out O3.out).mono ?_
      rintro e w4 ⟨rfl, n4, rfl⟩
      go_wp2_with fail
      refine (impl_LoginFrom_any _ L _ (I3.out.drewN _)).mono ?_
      rintro e w5 ⟨rfl, b5⟩
      rw [E1.out]
      have I5 := Lib.hid ((I3.out.drewN n4).below b5)
      have B5 := Lib.hid ((below_drewN B3.out n4).trans (b5.mono (show _ ≤ _ from B3.out.size)))
      have K5 := Lib.hid ((KK.out.drewN n4).kept b5)
      have X5 := Lib.hid (Blk.new w5 31 #[.string x, .string y])
      clear b5 I3 O3 KK B3
      obtain ⟨A2, c2, rfl, hc2, hm2, _⟩ := I5.out.open_
      go_wp2_with (first
        | (at_builtin; refine wp_ints rfl (.tmp 57) (.tmp 58) rfl rfl rfl (own_0 (base := w5.heap.size + 1) (World.size_alloc _ _).symm (Nat.le_of_eq (World.size_alloc _ _).symm)) ((I5.out.alloc _).alloc _) (by simp; omega) (by simp) ?_; intro v6 w6 o6 b6 g6 k6)
        | (at_builtin; refine wp_ints rfl (.tmp 59) (.tmp 60) rfl rfl rfl (o6.alloc _) (lit1 _ 9) (by simp; omega) (by simp; have := b6.size; simp at this; omega) ?_; intro v7 w7 o7 b7 g7 k7))
      rw [List.nil_append] at o7
      have b56 : Below (w5.heap.size + 1) (w5.alloc (.cells #[.string x, .string y] 31)) w6 := ((Below.refl (w5.heap.size + 1) (w5.alloc (.cells #[.string x, .string y] 31))).alloc (by simp) (.cells #[] 3)).trans b6
      have BB := Lib.hid ((b56.alloc (by have := b56.size; simp at this; omega) _).trans b7)
      have O7 := Lib.hid o7.ints.zero
      have K7 := Lib.hid ((K5.out.alloc (.cells #[.string x, .string y] 31)).below BB.out (by have := K5.out.lt; omega))
      have X7 := Lib.hid (X5.out.below BB.out (by omega))
      have B7 := Lib.hid ((B5.out.alloc B5.out.size (.cells #[.string x, .string y] 31)).trans (BB.out.mono (by have := B5.out.size; omega)))
      clear o6 b6 g6 k6 o7 b7 g7 k7 b56 I5 K5 X5 B5
      refine (impl_LoginFrom_any _ (L ++ [9]) _ O7.out).mono ?_
      rintro e w8 ⟨rfl, b8⟩
      rw [E2.out]
      have K8 := K7.out.kept b8
      have X8 := X7.out.kept b8
      have B8 := Lib.hid (B7.out.trans (b8.mono B7.out.size))
      have f0 : w8.cell? ⟨w1.heap.size, 0, none⟩ = some (.string x) := K8.cell 0
      have f1 : w8.cell? ⟨w1.heap.size, 1, none⟩ = some (.string y) := K8.cell 1
      have f2 : w8.cell? ⟨w5.heap.size, 0, none⟩ = some (.string x) := X8.cell 0
      have f3 : w8.cell? ⟨w5.heap.size, 1, none⟩ = some (.string y) := X8.cell 1
      have hz1 := K8.lt
      have hz2 := X8.lt
      clear b8 K7 X7 O7 K8 X8
      go_wp2_with fail
      go_ret
      exact ⟨rfl, B8.out.alloc B8.out.size _⟩
set_option maxRecDepth 100000 in
theorem lifted (os : Os) (started : os.Started) (H : Type) (enc : TypeId × Value → H) :
    ReturnsInHanded {} Try.checked os 19 .any (Rows.fnLoginSpec.pre6 enc Try.prog Try.f19 Rows.fnLoginRow.domain false) (Rows.fnLoginSpec.post enc Try.prog Try.f19 false true false false) := by
  refine returnsInHanded_of_change (C := Try.checked) Try.own started (by kernel_rfl) Try.func19
    (ChangeSpec.witness6 (enc := enc) (C := Try.checked) false ⟨#[], #[.slice none 0 0], []⟩ 8 (by kernel_rfl) (by kernel_rfl) (by kernel_rfl) (by kernel_rfl)) ?_
  intro W base args ds gs before hval0 hW hcnd _
  have hval : ∀ (j : Nat) t v, Try.f19.params[j]? = some t → args[j]? = some v → Value.okWide Try.prog W .any base t v := hval0
  have hW' := hW
  obtain ⟨p, q, hA0, hV, rfl, hfz, hnd⟩ := hW
  have hA : DataW.TrodAll enc Try.prog W 0 (fun _ => true) true Try.f19.params.toList args.toList ds p := hA0
  rw [Try.params19] at hA hval
  obtain ⟨v0, vs0, d0, ds0, p0, q0, hargs, rfl, rfl, h0, r0⟩ := trodAll_cons hA
  obtain ⟨rfl, rfl, rfl⟩ := trodAll_nil r0
  obtain rfl : args = #[v0] := by cases args; simp_all
  obtain ⟨rfl, rfl⟩ := trodVars_none hV
  obtain ⟨a0, len0, cap0, rfl⟩ := okWide_slice Try.underlying27 (hval 0 27 v0 rfl rfl)
  have k0 := h0
  have lt0 : ∀ x ∈ p0, x.block < W.heap.size := by obtain ⟨m, hm⟩ := k0; exact DataW.trod_lt m _ _ _ hm
  obtain ⟨z0, w0⟩ : ∃ zs, IsRow .u8 W a0 len0 cap0 zs := by
    obtain ⟨fuel, hf⟩ := h0
    rcases open_ints Try.underlying27 Try.underlying5 (by kernel_rfl) hf with ⟨hcs, _⟩ | ⟨x, l, c, zs, hcs, _, hl, hm, hz, _, hcell, hwz⟩
    · simp [Value.cells] at hcs
      obtain ⟨rfl, rfl, rfl⟩ := hcs
      exact ⟨[], .inl ⟨rfl, rfl, rfl, rfl⟩⟩
    · simp [Value.cells] at hcs
      obtain ⟨rfl, rfl, rfl⟩ := hcs
      exact ⟨zs, .inr ⟨_, rfl, hl, hm, by simpa using hz, hcell, hwz⟩⟩
  clear hA0 hval0
  refine (walk (.slice a0 len0 cap0) _ W ((Came.of_row w0).1)).mono fun e W' ⟨he, bel⟩ => ?_
  subst he
  exact ⟨_, rfl, _, _, _, [], _, [], hW', trodAll_mk1 (shut_bool Try.underlying4 _), (trodAll_cons_mk (Below.trod Try.laidOut (by kernel_rfl) (of_decide_eq_true (by kernel_rfl)) k0 bel lt0) trodAll_mk0), rfl, bel.frame _, fun h => by cases h⟩

theorem closed : joinedFacts Try.prog 19 Try.f19 Rows.fnLoginSpec Rows.fnLoginRow = true := by
  unfold joinedFacts
  repeat' (with_reducible refine band ?_ ?_)
  all_goals (with_reducible (first | exact Try.laidOut | exact kMaps | exact kStops | exact kKnobs | exact kHeard | exact kEnter | refine eqPlain ?_ | refine eqLift ?_ | refine eqMake ?_ | skip))
  all_goals (as_aux_lemma => kernel_rfl)

/-- THE STATEMENT -/
theorem proved : Rows.FnLoginSaid :=
  OpenClaim.holds_of_wide 19 Try.f19 rfl rfl rfl rfl rfl rfl rfl ⟨rfl, rfl, rfl, rfl, rfl⟩ rfl rfl rfl rfl rfl (by as_aux_lemma => kernel_rfl) Try.func19 closed
    (of_decide_eq_true (by as_aux_lemma => kernel_rfl)) (by unfold Func.isWrapper; first | (rw [if_pos (by decide +kernel)]; kernel_rfl) | (rw [if_neg (by decide +kernel)]; exact ⟨rfl, rfl⟩))
    (fun os started H enc _ => lifted os started H enc)
end Go.Proofs.Yticlgmdmkomdbaa.fnLogin

/-
  LoginFrom of the program returns what the reference's returns, and leaves its argument as it was. Conditions: none.
-/
import Derived.Test.YticlgmdmkomdbaaKit
import Derived.Test.YticlgmdmkomdbaaLoginFrom2
import Derived.Test.YticlgmdmkomdbaaLoginArg
import Derived.Test.YticlgmdmkomdbaaTexts
import Derived.Test.YticlgmdmkomdbaaApart
namespace Go.Proofs.Yticlgmdmkomdbaa.fnExactLoginFrom
open Go.ChangeShapes Go.WideShapes Go.ChangeAt Go.RowKit

set_option maxRecDepth 100000 in
set_option maxHeartbeats 4000000 in
theorem walk (v : Value) (zs : List Int) (w : World) (hv : Came .i64 w w.heap.size v zs) : Calls Try.prog 18 #[v] w fun e w' => e = .returned (.bool true) ∧ Below w.heap.size w w' := by
  have hv0 := Lib.hid hv
  obtain ⟨A, c, rfl, hc, hm, _, _⟩ := hv
  by_cases hl : 1048576 < zs.length
  · have hl' : (1048576 : Int) < (zs.length : Int) := by omega
    go_enter Try.func18, Try.ntmps18
    go_wp2_with fail
    go_ret
    exact ⟨rfl, Below.refl _ _⟩
  have hl' : (zs.length : Int) ≤ 1048576 := by omega
  have impl_ := fun u W h => impl_LoginFrom_any u zs W h
  have spec_ := fun u W h => spec_LoginFrom_any u zs W h
  obtain ⟨U, V, C, K, hT⟩ : ∃ U V C K, lfT zs = .tuple #[.agg #[.string U, .string V], .int .i64 C, .bool K] := ⟨_, _, _, _, rfl⟩
  rw [hT] at impl_ spec_
  have HI := Lib.hid impl_
  have HS := Lib.hid spec_
  clear hl hT impl_ spec_
  go_enter Try.func18, Try.ntmps18
  go_wp2_with fail
  refine (toIntS_any _ zs w.heap.size w hv0.out (Nat.le_refl _) (by omega)).mono ?_
  rintro e w1 ⟨u1, rfl, o1, b1⟩
  have O1 := Lib.hid o1
  have B1 := Lib.hid b1
  clear o1 b1
  go_wp2_with fail
  refine (HS.out _ _ O1.out.ints.zero).mono ?_
  rintro e w2 ⟨rfl, b2⟩
  have B2 := Lib.hid ((B1.out.trans (b2.mono B1.out.size)).alloc (B1.out.trans (b2.mono B1.out.size)).size (.cells #[.string U, .string V] 31))
  have K2 := Lib.hid (Blk.new w2 31 #[.string U, .string V])
  clear b2 O1
  go_wp2_with fail
  refine (toIntS_any _ zs w.heap.size _ (hv0.out.below B2.out) B2.out.size (by omega)).mono ?_
  rintro e w3 ⟨x3, rfl, o3, b3⟩
  have O3 := Lib.hid o3
  have B3 := Lib.hid (B2.out.trans (b3.mono B2.out.size))
  have K3 := Lib.hid (K2.out.kept b3)
  clear o3 b3 K2
  go_wp2_with fail
  refine (HI.out _ _ O3.out.ints.zero).mono ?_
  rintro e w4 ⟨rfl, b4⟩
  have O34 := Lib.hid ((O3.out.below b4).alloc (.cells #[.string U, .string V] 31))
  have B4 := Lib.hid ((B3.out.trans (b4.mono B3.out.size)).alloc (B3.out.trans (b4.mono B3.out.size)).size (.cells #[.string U, .string V] 31))
  have K4 := K3.out.kept b4
  have a0 : w4.cell? ⟨w2.heap.size, 0, none⟩ = some (.string U) := K4.cell 0
  have a1 : w4.cell? ⟨w2.heap.size, 1, none⟩ = some (.string V) := K4.cell 1
  have hz4 := K4.lt
  clear b4 O3 K3 K4
  go_wp2_with fail
  refine (eqLogin_same U V _).mono ?_
  rintro e w5 ⟨rfl, b5⟩
  have O35 := Lib.hid (O34.out.below b5)
  have B5 := Lib.hid (B4.out.trans (b5.mono B4.out.size))
  clear b5 O34 a0 a1
  go_wp2_with fail
  refine (toIntS_any _ zs w.heap.size _ (hv0.out.below B5.out) B5.out.size (by omega)).mono ?_
  rintro e w6 ⟨u6, rfl, o6, b6⟩
  have O6 := Lib.hid o6
  have O36 := Lib.hid (O35.out.below b6)
  have B6 := Lib.hid (B5.out.trans (b6.mono B5.out.size))
  clear o6 b6 O35
  go_wp2_with fail
  refine (eqIntS_any _ _ zs zs _ O36.out.ints.zero O6.out.ints.zero).mono ?_
  rintro e w7 ⟨rfl, n7, rfl⟩
  go_wp2_with fail
  go_ret
  exact ⟨rfl, below_drewN B6.out _⟩
set_option maxRecDepth 100000 in
theorem lifted (os : Os) (started : os.Started) (H : Type) (enc : TypeId × Value → H) :
    ReturnsInHanded {} Try.checked os 18 .any (Rows.fnExactLoginFromSpec.pre6 enc Try.prog Try.f18 Rows.fnExactLoginFromRow.domain false) (Rows.fnExactLoginFromSpec.post enc Try.prog Try.f18 false true false false) := by
  refine returnsInHanded_of_change (C := Try.checked) Try.own started (by kernel_rfl) Try.func18
    (ChangeSpec.witness6 (enc := enc) (C := Try.checked) false ⟨#[], #[.slice none 0 0], []⟩ 8 (by kernel_rfl) (by kernel_rfl) (by kernel_rfl) (by kernel_rfl)) ?_
  intro W base args ds gs before hval0 hW hcnd _
  have hval : ∀ (j : Nat) t v, Try.f18.params[j]? = some t → args[j]? = some v → Value.okWide Try.prog W .any base t v := hval0
  have hW' := hW
  obtain ⟨p, q, hA0, hV, rfl, hfz, hnd⟩ := hW
  have hA : DataW.TrodAll enc Try.prog W 0 (fun _ => true) true Try.f18.params.toList args.toList ds p := hA0
  rw [Try.params18] at hA hval
  obtain ⟨v0, vs0, d0, ds0, p0, q0, hargs, rfl, rfl, h0, r0⟩ := trodAll_cons hA
  obtain ⟨rfl, rfl, rfl⟩ := trodAll_nil r0
  obtain rfl : args = #[v0] := by cases args; simp_all
  obtain ⟨rfl, rfl⟩ := trodVars_none hV
  obtain ⟨a0, len0, cap0, rfl⟩ := okWide_slice Try.underlying22 (hval 0 22 v0 rfl rfl)
  have k0 := h0
  have lt0 : ∀ x ∈ p0, x.block < W.heap.size := by obtain ⟨m, hm⟩ := k0; exact DataW.trod_lt m _ _ _ hm
  obtain ⟨z0, w0⟩ : ∃ zs, IsRow .i64 W a0 len0 cap0 zs := by
    obtain ⟨fuel, hf⟩ := h0
    rcases open_ints Try.underlying22 Try.underlying3 (by kernel_rfl) hf with ⟨hcs, _⟩ | ⟨x, l, c, zs, hcs, _, hl, hm, hz, _, hcell, hwz⟩
    · simp [Value.cells] at hcs
      obtain ⟨rfl, rfl, rfl⟩ := hcs
      exact ⟨[], .inl ⟨rfl, rfl, rfl, rfl⟩⟩
    · simp [Value.cells] at hcs
      obtain ⟨rfl, rfl, rfl⟩ := hcs
      exact ⟨zs, .inr ⟨_, rfl, hl, hm, by simpa using hz, hcell, hwz⟩⟩
  clear hA0 hval0
  refine (walk (.slice a0 len0 cap0) _ W ((Came.of_row w0).1)).mono fun e W' ⟨he, bel⟩ => ?_
  subst he
  exact ⟨_, rfl, _, _, _, [], _, [], hW', trodAll_mk1 (shut_bool Try.underlying4 _), (trodAll_cons_mk (Below.trod Try.laidOut (by kernel_rfl) (of_decide_eq_true (by kernel_rfl)) k0 bel lt0) trodAll_mk0), rfl, bel.frame _, fun h => by cases h⟩

theorem closed : joinedFacts Try.prog 18 Try.f18 Rows.fnExactLoginFromSpec Rows.fnExactLoginFromRow = true := by
  unfold joinedFacts
  repeat' (with_reducible refine band ?_ ?_)
  all_goals (with_reducible (first | exact Try.laidOut | exact kMaps | exact kStops | exact kKnobs | exact kHeard | exact kEnter | refine eqPlain ?_ | refine eqLift ?_ | refine eqMake ?_ | skip))
  all_goals (as_aux_lemma => kernel_rfl)

/-- THE STATEMENT -/
theorem proved : Rows.FnExactLoginFromSaid :=
  OpenClaim.holds_of_wide 18 Try.f18 rfl rfl rfl rfl rfl rfl rfl ⟨rfl, rfl, rfl, rfl, rfl⟩ rfl rfl rfl rfl rfl (by as_aux_lemma => kernel_rfl) Try.func18 closed
    (of_decide_eq_true (by as_aux_lemma => kernel_rfl)) (by unfold Func.isWrapper; first | (rw [if_pos (by decide +kernel)]; kernel_rfl) | (rw [if_neg (by decide +kernel)]; exact ⟨rfl, rfl⟩))
    (fun os started H enc _ => lifted os started H enc)
end Go.Proofs.Yticlgmdmkomdbaa.fnExactLoginFrom

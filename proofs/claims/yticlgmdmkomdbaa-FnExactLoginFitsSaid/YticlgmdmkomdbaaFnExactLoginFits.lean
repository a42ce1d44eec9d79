/-
  LoginFits of the program returns what the reference's returns, for all logins, and leaves the list as it was. Conditions: none.
-/
import Derived.Test.YticlgmdmkomdbaaLoginsArg
import Derived.Test.YticlgmdmkomdbaaLoginBytes
namespace Go.Proofs.Yticlgmdmkomdbaa.fnExactLoginFits
open Go.ChangeShapes Go.WideShapes Go.ChangeAt Go.RowKit

set_option maxRecDepth 100000 in
set_option maxHeartbeats 4000000 in
theorem walk (v : Value) (ls : List (ByteArray × ByteArray)) (x y : ByteArray) (w : World) (hv : CameP w w.heap.size v ls) (hx : x.size ≤ maxLen) (hy : y.size ≤ maxLen) : Calls Try.prog 9 #[v, .agg #[.string x, .string y]] w fun e w' => e = .returned (.bool true) ∧ Below w.heap.size w w' := by
  have HX := Lib.hid hx
  have HY := Lib.hid hy
  have B0 := Lib.hid ((Below.refl w.heap.size w).alloc (Nat.le_refl _) (.cells #[.string x, .string y] 44))
  have hv0 := Lib.hid (hv.below B0.out)
  have K0 := Lib.hid (Blk.new w 44 #[.string x, .string y])
  clear hx hy hv
  go_enter Try.func9, Try.ntmps9
  go_wp2_with fail
  refine (szLoginS_any v ls w.heap.size _ hv0.out (by simp)).mono ?_
  rintro e w1 ⟨r, rfl, hr0, hr1, hr2, b1⟩
  have K1 := Lib.hid (K0.out.kept b1)
  have B1 := Lib.hid (B0.out.trans (b1.mono (by simp)))
  have V1 := Lib.hid (hv0.out.below (b1.mono (by simp)))
  clear b1 K0
  by_cases hr : r < 0
  · go_wp2_with fail
    go_ret
    exact ⟨rfl, B1.out⟩
  have hr' : 0 ≤ r := by omega
  have hlen : ls.length ≤ 1048576 := hr2 hr'
  have a0 : w1.cell? ⟨w.heap.size, 0, none⟩ = some (.string x) := K1.out.cell 0
  have a1 : w1.cell? ⟨w.heap.size, 1, none⟩ = some (.string y) := K1.out.cell 1
  clear hr2
  go_wp2_with fail
  refine (szLogin_any x y r _ hr' hr1 HX.out HY.out).mono ?_
  rintro e w2 ⟨q, rfl, hq0, hq1, b2⟩
  have K2 := Lib.hid (K1.out.kept b2)
  have B2 := Lib.hid (B1.out.trans (b2.mono B1.out.size))
  have V2 := Lib.hid (V1.out.below (b2.mono B1.out.size))
  clear b2 K1 V1 a0 a1
  by_cases hq : q < 0
  · go_wp2_with fail
    go_ret
    exact ⟨rfl, B2.out⟩
  have hq' : 0 ≤ q := by omega
  have a0 : w2.cell? ⟨w.heap.size, 0, none⟩ = some (.string x) := K2.out.cell 0
  have a1 : w2.cell? ⟨w.heap.size, 1, none⟩ = some (.string y) := K2.out.cell 1
  have hz2 := K2.out.lt
  go_wp2_with fail
  have hB : Hid (Below w.heap.size w w2.drew) := Lib.hid B2.out.drew
  have V2d := Lib.hid (V2.out.below (Below.refl _ _).drew)
  go_region_held3 (fun w' => w'.cell? ⟨w.heap.size, 0, none⟩ = some (.string x) ∧ w'.cell? ⟨w.heap.size, 1, none⟩ = some (.string y) ∧ w.heap.size < w'.heap.size ∧ Below w.heap.size w w') (first | exact ⟨a0, a1, hz2, hB.out⟩ | exact two_below ‹_› b3 | exact two_below ‹_› b4 | exact two_below ‹_› b5)
    (first
      | (go_at_call 43; refine (toLoginS_any v ls w.heap.size _ V2d.out B2.out.size (by omega)).mono ?_; rintro e w3 ⟨u3, rfl, o3, b3⟩)
      | (go_at_call 44; refine (toLogin_any x y _).mono ?_; rintro e w4 ⟨rfl, b4⟩)
      | (go_at_call 33; refine (spec_LoginFits_any _ ls x y _ (Logins.below o3 b4).lo0 HX.out HY.out).mono ?_; rintro e w5 ⟨rfl, b5⟩))
  obtain ⟨k0, k1, k2, k3⟩ : w5.cell? ⟨w.heap.size, 0, none⟩ = some (.string x) ∧ w5.cell? ⟨w.heap.size, 1, none⟩ = some (.string y) ∧ w.heap.size < w5.heap.size ∧ Below w.heap.size w w5 := by assumption
  have B5 := Lib.hid k3
  have K5 := Lib.hid (((K2.out.below (B := w2.heap.size) (Below.refl _ _).drew K2.out.lt).kept b3).kept b4 |>.kept b5)
  have V5 := Lib.hid (((V2d.out.below (b3.mono B2.out.size)).below (b4.mono (Nat.le_trans B2.out.size b3.size))).below (b5.mono (Nat.le_trans (Nat.le_trans B2.out.size b3.size) b4.size)))
  clear k3 b3 b4 b5 o3 V2 V2d hB a0 a1 K2
  go_wp2_with fail
  refine (toLoginS_any v ls w.heap.size _ V5.out B5.out.size (by omega)).mono ?_
  rintro e w6 ⟨x6, rfl, o6, b6⟩
  have K6 := Lib.hid (K5.out.kept b6)
  have B6 := Lib.hid (B5.out.trans (b6.mono B5.out.size))
  have V6 := Lib.hid (V5.out.below (b6.mono B5.out.size))
  have O6 := Lib.hid o6
  have a0 : w6.cell? ⟨w.heap.size, 0, none⟩ = some (.string x) := K6.out.cell 0
  have a1 : w6.cell? ⟨w.heap.size, 1, none⟩ = some (.string y) := K6.out.cell 1
  clear o6 b6 k0 k1 K5 V5
  go_wp2_with fail
  refine (toLogin_any x y _).mono ?_
  rintro e w7 ⟨rfl, b7⟩
  have B7 := Lib.hid (B6.out.trans (b7.mono B6.out.size))
  have V7 := Lib.hid (V6.out.below (b7.mono B6.out.size))
  have O7 := Lib.hid (O6.out.below b7)
  clear b7 O6 V6 a0 a1
  go_wp2_with fail
  refine (impl_LoginFits_any _ ls x y _ O7.out.lo0 HX.out HY.out).mono ?_
  rintro e w8 ⟨rfl, b8⟩
  have B8 := Lib.hid (B7.out.trans (b8.mono B7.out.size))
  have V8 := Lib.hid (V7.out.below (b8.mono B7.out.size))
  have O8 := Lib.hid (O7.out.below b8)
  obtain ⟨F, hF⟩ : ∃ F, fitsL ls x y = F := ⟨_, rfl⟩
  rw [hF]
  clear b8 O7 V7 hF
  go_wp2_with fail
  refine (toLoginS_any v ls w.heap.size _ V8.out B8.out.size (by omega)).mono ?_
  rintro e w9 ⟨x9, rfl, o9, b9⟩
  have B9 := Lib.hid (B8.out.trans (b9.mono B8.out.size))
  have O9 := Lib.hid (O8.out.below b9).lo0
  have P9 := Lib.hid o9.lo0
  clear b9 o9 O8 V8
  go_wp2_with fail
  refine (eqLoginS_same _ _ ls _ O9.out P9.out).mono ?_
  rintro e w10 ⟨rfl, b10⟩
  have B10 := Lib.hid (B9.out.trans (b10.mono B9.out.size))
  clear b10
  go_wp2_with fail
  go_ret
  exact ⟨rfl, B10.out⟩
set_option maxRecDepth 100000 in
theorem lifted (os : Os) (started : os.Started) (H : Type) (enc : TypeId × Value → H) :
    ReturnsInHanded {} Try.checked os 9 .any (Rows.fnExactLoginFitsSpec.pre6 enc Try.prog Try.f9 Rows.fnExactLoginFitsRow.domain false) (Rows.fnExactLoginFitsSpec.post enc Try.prog Try.f9 false true false false) := by
  refine returnsInHanded_of_change (C := Try.checked) Try.own started (by kernel_rfl) Try.func9
    (ChangeSpec.witness6 (enc := enc) (C := Try.checked) false ⟨#[], #[.slice none 0 0, .agg #[.string .empty, .string .empty]], []⟩ 8 (by kernel_rfl) (by kernel_rfl) (by kernel_rfl) (by kernel_rfl)) ?_
  intro W base args ds gs before hval0 hW hcnd _
  have hval : ∀ (j : Nat) t v, Try.f9.params[j]? = some t → args[j]? = some v → Value.okWide Try.prog W .any base t v := hval0
  have hW' := hW
  obtain ⟨p, q, hA0, hV, rfl, hfz, hnd⟩ := hW
  have hA : DataW.TrodAll enc Try.prog W 0 (fun _ => true) true Try.f9.params.toList args.toList ds p := hA0
  rw [Try.params9] at hA hval
  obtain ⟨v0, vs0, d0, ds0, p0, q0, hargs, rfl, rfl, h0, r0⟩ := trodAll_cons hA
  obtain ⟨v1, vs1, d1, ds1, p1, q1, rfl, rfl, rfl, h1, r1⟩ := trodAll_cons r0
  obtain ⟨rfl, rfl, rfl⟩ := trodAll_nil r1
  obtain rfl : args = #[v0, v1] := by cases args; simp_all
  obtain ⟨rfl, rfl⟩ := trodVars_none hV
  have k0 := h0
  have lt0 : ∀ x ∈ p0, x.block < W.heap.size := by obtain ⟨m, hm⟩ := k0; exact DataW.trod_lt m _ _ _ hm
  obtain ⟨a0, ha0⟩ := logins_of (hval 0 43 v0 rfl rfl) h0
  have k1 := h1
  have lt1 : ∀ x ∈ p1, x.block < W.heap.size := by obtain ⟨m, hm⟩ := k1; exact DataW.trod_lt m _ _ _ hm
  obtain ⟨a1, b1, rfl, ha1, hb1⟩ := login_of (hval 1 44 v1 rfl rfl) h1
  clear hA0 hval0
  refine (walk _ a0 a1 b1 W (ha0) (ha1) (hb1)).mono fun e W' ⟨he, bel⟩ => ?_
  subst he
  exact ⟨_, rfl, _, _, _, [], _, [], hW', trodAll_mk1 (shut_bool Try.underlying4 _), (trodAll_cons_mk (Below.trod Try.laidOut (by kernel_rfl) (of_decide_eq_true (by kernel_rfl)) k0 bel lt0) (trodAll_cons_mk (Below.trod Try.laidOut (by kernel_rfl) (of_decide_eq_true (by kernel_rfl)) k1 bel lt1) trodAll_mk0)), rfl, bel.frame _, fun h => by cases h⟩

theorem closed : joinedFacts Try.prog 9 Try.f9 Rows.fnExactLoginFitsSpec Rows.fnExactLoginFitsRow = true := by
  unfold joinedFacts
  repeat' (with_reducible refine band ?_ ?_)
  all_goals (with_reducible (first | exact Try.laidOut | exact kMaps | exact kStops | exact kKnobs | exact kHeard | exact kEnter | refine eqPlain ?_ | refine eqLift ?_ | refine eqMake ?_ | skip))
  all_goals (as_aux_lemma => kernel_rfl)

/-- THE STATEMENT -/
theorem proved : Rows.FnExactLoginFitsSaid :=
  OpenClaim.holds_of_wide 9 Try.f9 rfl rfl rfl rfl rfl rfl rfl ⟨rfl, rfl, rfl, rfl, rfl⟩ rfl rfl rfl rfl rfl (by as_aux_lemma => kernel_rfl) Try.func9 closed
    (of_decide_eq_true (by as_aux_lemma => kernel_rfl)) (by unfold Func.isWrapper; first | (rw [if_pos (by decide +kernel)]; kernel_rfl) | (rw [if_neg (by decide +kernel)]; exact ⟨rfl, rfl⟩))
    (fun os started H enc _ => lifted os started H enc)
end Go.Proofs.Yticlgmdmkomdbaa.fnExactLoginFits

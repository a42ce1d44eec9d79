/-
  LoginBytes of the program returns what the reference's returns, for all logins, in memory that it shares with nothing. Conditions: none.
-/
import Derived.Test.YticlgmdmkomdbaaLoginArg
import Derived.Test.YticlgmdmkomdbaaLoginBytes2
import Derived.Test.YticlgmdmkomdbaaMarks
import Derived.Test.YticlgmdmkomdbaaApart
namespace Go.Proofs.Yticlgmdmkomdbaa.fnExactLoginBytes
open Go.ChangeShapes Go.WideShapes Go.ChangeAt Go.RowKit

set_option maxRecDepth 100000 in
set_option maxHeartbeats 4000000 in
theorem walk (u v : ByteArray) (w : World) (hu : u.size ≤ maxLen) (hv : v.size ≤ maxLen) : Calls Try.prog 12 #[.agg #[.string u, .string v]] w fun e w' => e = .returned (.bool true) ∧ Below w.heap.size w w' := by
  have HU := Lib.hid hu
  have HV := Lib.hid hv
  clear hu hv
  have K0 := Lib.hid (Blk.new w 44 #[.string u, .string v])
  have B0 := Lib.hid ((Below.refl w.heap.size w).alloc (Nat.le_refl _) (.cells #[.string u, .string v] 44))
  by_cases hl : (1048576 : Int) < (u.size : Int) + v.size
  · go_enter Try.func12, Try.ntmps12
    go_wp2_with fail
    refine (szLogin_not u v 1048576 _ hl (by omega) (by omega) HU.out HV.out).mono ?_
    rintro e w1 ⟨rfl, b1⟩
    have B1 := Lib.hid (B0.out.trans (b1.mono (by simp)))
    clear b1
    go_wp2_with fail
    go_ret
    exact ⟨rfl, B1.out⟩
  have hlen : (loginL u v).length ≤ 100 := by
    cases h : loginOk u v
    · rw [loginL_not h]; simp
    · rw [loginL_ok h, loginB_length]
      have := loginOk_parts h
      omega
  obtain ⟨L, hL⟩ : ∃ L, loginL u v = L := ⟨_, rfl⟩
  obtain ⟨K, hK⟩ : ∃ K, loginOk u v = K := ⟨_, rfl⟩
  have impl_ := fun W => impl_LoginBytes_any u v W HU.out HV.out
  have spec_ := fun W => spec_LoginBytes_any u v W HU.out HV.out
  rw [hL, hK] at impl_ spec_
  have HI := Lib.hid impl_
  have HS := Lib.hid spec_
  rw [hL] at hlen
  have hl' : (u.size : Int) + v.size ≤ 1048576 := by omega
  have hsz : ¬ (1048576 - (u.size : Int) - (v.size : Int) < 0) := by omega
  clear hl hL hK impl_ spec_
  go_enter Try.func12, Try.ntmps12
  go_wp2_with fail
  refine (szLogin_fits u v 1048576 _ hl' (by omega)).mono ?_
  rintro e w1 ⟨rfl, b1⟩
  have K1 := Lib.hid (K0.out.kept b1)
  have B1 := Lib.hid (B0.out.trans (b1.mono (by simp)))
  have a0 : w1.cell? ⟨w.heap.size, 0, none⟩ = some (.string u) := K1.out.cell 0
  have a1 : w1.cell? ⟨w.heap.size, 1, none⟩ = some (.string v) := K1.out.cell 1
  clear b1 K0
  go_wp2_with fail
  refine (toLogin_any u v _).mono ?_
  rintro e w2 ⟨rfl, b2⟩
  have K2 := Lib.hid (K1.out.kept b2)
  have B2 := Lib.hid (B1.out.trans (b2.mono B1.out.size))
  clear b2 K1 a0 a1
  go_wp2_with fail
  refine (HS.out _).mono ?_
  rintro e w3 ⟨s3, rfl, o3, b3⟩
  have K3 := Lib.hid (K2.out.kept b3)
  have O3 := Lib.hid o3
  have B3 := Lib.hid (B2.out.trans (b3.mono B2.out.size))
  have a0 : w3.cell? ⟨w.heap.size, 0, none⟩ = some (.string u) := K3.out.cell 0
  have a1 : w3.cell? ⟨w.heap.size, 1, none⟩ = some (.string v) := K3.out.cell 1
  clear b3 o3 K2
  go_wp2_with fail
  refine (toLogin_any u v _).mono ?_
  rintro e w4 ⟨rfl, b4⟩
  have K4 := Lib.hid (K3.out.kept b4)
  have O34 := Lib.hid (O3.out.below b4)
  have B4 := Lib.hid (B3.out.trans (b4.mono B3.out.size))
  clear b4 K3 a0 a1
  go_wp2_with fail
  refine (HI.out _).mono ?_
  rintro e w5 ⟨g5, rfl, o5, b5⟩
  have K5 := Lib.hid (K4.out.kept b5)
  have K4lt := K4.out.lt
  have O5 := Lib.hid o5
  have O35 := Lib.hid (O34.out.below b5)
  have B5 := Lib.hid (B4.out.trans (b5.mono B4.out.size))
  have P35 := Lib.hid (O34.out.ahead O5.out)
  clear b5 o5 K4 O3 O34
  go_wp2_with fail
  refine (eqIntS_any _ _ L L _ O5.out.ints.zero O35.out.ints.zero).mono ?_
  rintro e w6 ⟨rfl, n6, rfl⟩
  go_wp2_with fail
  refine (markIntS_any _ L _ 1 _ (O5.out.ints.drewN n6) (by omega) (by omega) (by omega)).mono ?_
  rintro e w7 ⟨rfl, i7, g7⟩
  have O37 := Lib.hid ((O35.out.drewN n6).keep g7 P35.out)
  have hs4 := B4.out.size
  have hs5 := B5.out.size
  have K7 : Hid (Blk w7 w.heap.size 44 #[.string u, .string v]) := Lib.hid ((O5.out.older g7 (by have := K4lt; omega) K5.out.lt).trans K5.out)
  have I7 := Lib.hid i7
  have B7 := Lib.hid ((below_drewN B5.out n6).trans (below_own ((O5.out.drewN n6).more hs4) g7 (show _ ≤ _ from hs5)))
  have hk7 : ¬ (1 + (L.length : Int) < 0) := by omega
  clear g7 i7 O35 O5 K5
  go_wp2_with fail
  refine (heldIntS_any _ 1 L.length _ I7.out.zero (by omega) (by omega) (by omega)).mono ?_
  rintro e w8 ⟨rfl, rfl⟩
  have a0 : w7.cell? ⟨w.heap.size, 0, none⟩ = some (.string u) := K7.out.cell 0
  have a1 : w7.cell? ⟨w.heap.size, 1, none⟩ = some (.string v) := K7.out.cell 1
  go_wp2_with fail
  refine (toLogin_any u v _).mono ?_
  rintro e w9 ⟨rfl, b9⟩
  have I9 := Lib.hid (I7.out.below b9)
  have O39 := Lib.hid (O37.out.below b9)
  have B9 := Lib.hid (B7.out.trans (b9.mono B7.out.size))
  clear b9 I7 O37 K7 a0 a1
  go_wp2_with fail
  refine (HI.out _).mono ?_
  rintro e w10 ⟨g10, rfl, o10, b10⟩
  have I10 := Lib.hid (I9.out.below b10)
  have O310 := Lib.hid (O39.out.below b10)
  have O10 := Lib.hid o10
  have B10 := Lib.hid (B9.out.trans (b10.mono B9.out.size))
  clear b10 o10 I9 O39
  go_wp2_with fail
  refine (eqIntS_any _ _ L L _ O10.out.ints.zero O310.out.ints.zero).mono ?_
  rintro e w11 ⟨rfl, n11, rfl⟩
  go_wp2_with fail
  refine (heldIntS_any _ 1 L.length _ (I10.out.drewN n11).zero (by omega) (by omega) (by omega)).mono ?_
  rintro e w12 ⟨rfl, rfl⟩
  go_wp2_with fail
  go_ret
  exact ⟨rfl, below_drewN B10.out _⟩
set_option maxRecDepth 100000 in
theorem lifted (os : Os) (started : os.Started) (H : Type) (enc : TypeId × Value → H) :
    ReturnsInHanded {} Try.checked os 12 .any (Rows.fnExactLoginBytesSpec.pre6 enc Try.prog Try.f12 Rows.fnExactLoginBytesRow.domain false) (Rows.fnExactLoginBytesSpec.post enc Try.prog Try.f12 false true false false) := by
  refine returnsInHanded_of_change (C := Try.checked) Try.own started (by kernel_rfl) Try.func12
    (ChangeSpec.witness6 (enc := enc) (C := Try.checked) false ⟨#[], #[.agg #[.string .empty, .string .empty]], []⟩ 8 (by kernel_rfl) (by kernel_rfl) (by kernel_rfl) (by kernel_rfl)) ?_
  intro W base args ds gs before hval0 hW hcnd _
  have hval : ∀ (j : Nat) t v, Try.f12.params[j]? = some t → args[j]? = some v → Value.okWide Try.prog W .any base t v := hval0
  have hW' := hW
  obtain ⟨p, q, hA0, hV, rfl, hfz, hnd⟩ := hW
  have hA : DataW.TrodAll enc Try.prog W 0 (fun _ => true) true Try.f12.params.toList args.toList ds p := hA0
  rw [Try.params12] at hA hval
  obtain ⟨v0, vs0, d0, ds0, p0, q0, hargs, rfl, rfl, h0, r0⟩ := trodAll_cons hA
  obtain ⟨rfl, rfl, rfl⟩ := trodAll_nil r0
  obtain rfl : args = #[v0] := by cases args; simp_all
  obtain ⟨rfl, rfl⟩ := trodVars_none hV
  have k0 := h0
  have lt0 : ∀ x ∈ p0, x.block < W.heap.size := by obtain ⟨m, hm⟩ := k0; exact DataW.trod_lt m _ _ _ hm
  obtain ⟨a0, b0, rfl, ha0, hb0⟩ := login_of (hval 0 44 v0 rfl rfl) h0
  clear hA0 hval0
  refine (walk a0 b0 W (ha0) (hb0)).mono fun e W' ⟨he, bel⟩ => ?_
  subst he
  exact ⟨_, rfl, _, _, _, [], _, [], hW', trodAll_mk1 (shut_bool Try.underlying4 _), (trodAll_cons_mk (Below.trod Try.laidOut (by kernel_rfl) (of_decide_eq_true (by kernel_rfl)) k0 bel lt0) trodAll_mk0), rfl, bel.frame _, fun h => by cases h⟩

theorem closed : joinedFacts Try.prog 12 Try.f12 Rows.fnExactLoginBytesSpec Rows.fnExactLoginBytesRow = true := by
  unfold joinedFacts
  repeat' (with_reducible refine band ?_ ?_)
  all_goals (with_reducible (first | exact Try.laidOut | exact kMaps | exact kStops | exact kKnobs | exact kHeard | exact kEnter | refine eqPlain ?_ | refine eqLift ?_ | refine eqMake ?_ | skip))
  all_goals (as_aux_lemma => kernel_rfl)

/-- THE STATEMENT -/
theorem proved : Rows.FnExactLoginBytesSaid :=
  OpenClaim.holds_of_wide 12 Try.f12 rfl rfl rfl rfl rfl rfl rfl ⟨rfl, rfl, rfl, rfl, rfl⟩ rfl rfl rfl rfl rfl (by as_aux_lemma => kernel_rfl) Try.func12 closed
    (of_decide_eq_true (by as_aux_lemma => kernel_rfl)) (by unfold Func.isWrapper; first | (rw [if_pos (by decide +kernel)]; kernel_rfl) | (rw [if_neg (by decide +kernel)]; exact ⟨rfl, rfl⟩))
    (fun os started H enc _ => lifted os started H enc)
end Go.Proofs.Yticlgmdmkomdbaa.fnExactLoginBytes

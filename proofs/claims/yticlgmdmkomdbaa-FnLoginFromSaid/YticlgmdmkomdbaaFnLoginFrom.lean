/-
  A login has its bytes: true for every code. Conditions: none.
-/
import Derived.Test.YticlgmdmkomdbaaKit
import Derived.Test.YticlgmdmkomdbaaDrawFrom
import Derived.Test.YticlgmdmkomdbaaLoginFrom2
import Derived.Test.YticlgmdmkomdbaaLogins
import Derived.Test.YticlgmdmkomdbaaFromLaw2
import Derived.Test.YticlgmdmkomdbaaBegin
namespace Go.Proofs.Yticlgmdmkomdbaa.fnLoginFrom
open Go.ChangeShapes Go.WideShapes Go.ChangeAt Go.RowKit

theorem begin_of {zs : List Int} (h : lfOk zs = true) : ∃ U V : ByteArray, ∃ L : List Int, lfT zs = .tuple #[.agg #[.string U, .string V], .int .i64 (L.length : Int), .bool true] ∧ loginOk U V = true ∧ U.size ≤ maxLen ∧ V.size ≤ maxLen ∧ loginL U V = L ∧ beginL zs L = true := by
  obtain ⟨h1, h2⟩ := login_of_lf h
  obtain ⟨hv, _, _, he, l1, l2, _⟩ := lfOk_parts h
  have hb := bytes_of_valid hv
  have gd : ∀ j, zs.getD j 0 ≤ 255 := by
    intro j
    by_cases hj : j < zs.length
    · exact (hb (zs.getD j 0) (by simp [List.getD, hj])).2
    · simp [List.getD, hj]
  have g1 := gd 1
  have g2 := gd (lfAt zs)
  have hl : (zs.take (lfEnd zs)).length = lfEnd zs := by rw [List.length_take]; omega
  refine ⟨_, _, zs.take (lfEnd zs), ?_, h1, ?_, ?_, ?_, ?_⟩
  · rw [lf_yes h, hl]
  · rw [str_length]; unfold maxLen; omega
  · rw [str_length]; unfold maxLen; omega
  · rw [loginL_ok h1, h2]
  · rw [beginL, hl, decide_eq_true he]
    simp

set_option maxRecDepth 100000 in
set_option maxHeartbeats 4000000 in
theorem walk (v : Value) (bs : List Int) (w : World) (hv : Came .u8 w w.heap.size v bs) : Calls Try.prog 23 #[v] w fun e w' => e = .returned (.bool true) ∧ Below w.heap.size w w' := by
  have hv0 := Lib.hid hv
  obtain ⟨A, c, rfl, hc, hm, _, _⟩ := hv
  by_cases hl : 1048576 < bs.length
  · have hl' : (1048576 : Int) < (bs.length : Int) := by omega
    go_enter Try.func23, Try.ntmps23
    go_wp2_with fail
    go_ret
    exact ⟨rfl, Below.refl _ _⟩
  have hl' : (bs.length : Int) ≤ 1048576 := by omega
  clear hl
  go_enter Try.func23, Try.ntmps23
  go_wp2_with fail
  refine (DrawLoginFrom_any _ bs w hv0.out).mono ?_
  rintro e w1 ⟨v1, zs, rfl, i1, _, b1⟩
  have I1 := Lib.hid i1
  have B1 := Lib.hid b1
  clear i1 b1
  go_wp2_with fail
  refine (impl_LoginFrom_any _ zs _ I1.out).mono ?_
  rintro e w2 ⟨rfl, b2⟩
  cases hok : lfOk zs
  · rw [lf_not hok]
    have E := Lib.hid (lf_not hok)
    have B2 := Lib.hid ((B1.out.trans (b2.mono B1.out.size)).alloc (B1.out.trans (b2.mono B1.out.size)).size (.cells #[.string ByteArray.empty, .string ByteArray.empty] 31))
    have I2 := Lib.hid ((I1.out.below b2).alloc (.cells #[.string ByteArray.empty, .string ByteArray.empty] 31))
    clear b2 I1 hok
    go_wp2_with fail
    refine (spec_LoginFrom_any _ zs _ I2.out).mono ?_
    rintro e w3 ⟨rfl, b3⟩
    rw [E.out]
    have K3 := (Blk.new w2 31 #[.string ByteArray.empty, .string ByteArray.empty]).kept b3
    have B3 := Lib.hid (B2.out.trans (b3.mono B2.out.size))
    have a0 : w3.cell? ⟨w2.heap.size, 0, none⟩ = some (.string .empty) := K3.cell 0
    have a1 : w3.cell? ⟨w2.heap.size, 1, none⟩ = some (.string .empty) := K3.cell 1
    have hz := K3.lt
    clear b3 K3 E I2
    go_wp2_with fail
    go_ret
    exact ⟨rfl, B3.out.alloc B3.out.size _⟩
  · obtain ⟨U, V, L, hT, hLo, hU, hV, hL, hbeg⟩ := begin_of hok
    rw [hT]
    have E := Lib.hid hT
    have EL := Lib.hid hL
    have ELo := Lib.hid hLo
    have HU := Lib.hid hU
    have HV := Lib.hid hV
    have HBeg := Lib.hid hbeg
    have B2 := Lib.hid ((B1.out.trans (b2.mono B1.out.size)).alloc (B1.out.trans (b2.mono B1.out.size)).size (.cells #[.string U, .string V] 31))
    have I2 := Lib.hid ((I1.out.below b2).alloc (.cells #[.string U, .string V] 31))
    clear b2 I1 hok hT hLo hU hV hL hbeg
    go_wp2_with fail
    refine (spec_LoginFrom_any _ zs _ I2.out).mono ?_
    rintro e w3 ⟨rfl, b3⟩
    rw [E.out]
    have K3 := (Blk.new w2 31 #[.string U, .string V]).kept b3
    have B3 := Lib.hid ((B2.out.trans (b3.mono B2.out.size)).alloc (B2.out.trans (b3.mono B2.out.size)).size (.cells #[.string U, .string V] 31))
    have I3 := Lib.hid ((I2.out.below b3).alloc (.cells #[.string U, .string V] 31))
    have a0 : w3.cell? ⟨w2.heap.size, 0, none⟩ = some (.string U) := K3.cell 0
    have a1 : w3.cell? ⟨w2.heap.size, 1, none⟩ = some (.string V) := K3.cell 1
    have hz := K3.lt
    clear b3 K3 E I2
    go_wp2_with fail
    refine (impl_LoginBytes_any U V _ HU.out HV.out).mono ?_
    rintro e w4 ⟨v4, rfl, o4, b4⟩
    rw [EL.out] at o4
    rw [ELo.out]
    have O4 := Lib.hid o4.ints.zero
    have I4 := Lib.hid (I3.out.below b4)
    have B4 := Lib.hid (B3.out.trans (b4.mono B3.out.size))
    obtain ⟨A4, c4, rfl, hc4, hm4, _⟩ := O4.out.open_
    clear o4 b4 I3 a0 a1
    go_wp2_with fail
    refine (isBegin_any _ _ zs L _ I4.out O4.out).mono ?_
    rintro e w5 ⟨rfl, n5, rfl⟩
    rw [HBeg.out]
    go_wp2_with fail
    go_ret
    exact ⟨rfl, below_drewN B4.out _⟩
set_option maxRecDepth 100000 in
theorem lifted (os : Os) (started : os.Started) (H : Type) (enc : TypeId × Value → H) :
    ReturnsInHanded {} Try.checked os 23 .any (Rows.fnLoginFromSpec.pre6 enc Try.prog Try.f23 Rows.fnLoginFromRow.domain false) (Rows.fnLoginFromSpec.post enc Try.prog Try.f23 false true false false) := by
  refine returnsInHanded_of_change (C := Try.checked) Try.own started (by kernel_rfl) Try.func23
    (ChangeSpec.witness6 (enc := enc) (C := Try.checked) false ⟨#[], #[.slice none 0 0], []⟩ 8 (by kernel_rfl) (by kernel_rfl) (by kernel_rfl) (by kernel_rfl)) ?_
  intro W base args ds gs before hval0 hW hcnd _
  have hval : ∀ (j : Nat) t v, Try.f23.params[j]? = some t → args[j]? = some v → Value.okWide Try.prog W .any base t v := hval0
  have hW' := hW
  obtain ⟨p, q, hA0, hV, rfl, hfz, hnd⟩ := hW
  have hA : DataW.TrodAll enc Try.prog W 0 (fun _ => true) true Try.f23.params.toList args.toList ds p := hA0
  rw [Try.params23] at hA hval
  obtain ⟨v0, vs0, d0, ds0, p0, q0, hargs, rfl, rfl, h0, r0⟩ := trodAll_cons hA
  obtain ⟨rfl, rfl, rfl⟩ := trodAll_nil r0
  obtain rfl : args = #[v0] := by cases args; simp_all
  obtain ⟨rfl, rfl⟩ := trodVars_none hV
  obtain ⟨a0, len0, cap0, rfl⟩ := okWide_slice Try.underlying27 (hval 0 27 v0 rfl rfl)
  have k0 := h0
  have lt0 : ∀ x ∈ p0, x.block < W.heap.size := by obtain ⟨m, hm⟩ := k0; exact DataW.trod_lt m _ _ _ hm
  obtain ⟨z0, w0⟩ : ∃ zs, IsRow .u8 W a0 len0 cap0 zs := by
    obtain ⟨fuel, hf⟩ := h0
    rcases open_ints Try.underlying27 Try.underlying5 (by kernel_rfl) hf with ⟨hcs, _⟩ | ⟨x, l, c, zs, hcs, _, hl, hm, hz, _, hcell, hwz⟩
    · simp [Value.cells] at hcs
      obtain ⟨rfl, rfl, rfl⟩ := hcs
      exact ⟨[], .inl ⟨rfl, rfl, rfl, rfl⟩⟩
    · simp [Value.cells] at hcs
      obtain ⟨rfl, rfl, rfl⟩ := hcs
      exact ⟨zs, .inr ⟨_, rfl, hl, hm, by simpa using hz, hcell, hwz⟩⟩
  clear hA0 hval0
  refine (walk (.slice a0 len0 cap0) _ W ((Came.of_row w0).1)).mono fun e W' ⟨he, bel⟩ => ?_
  subst he
  exact ⟨_, rfl, _, _, _, [], _, [], hW', trodAll_mk1 (shut_bool Try.underlying4 _), (trodAll_cons_mk (Below.trod Try.laidOut (by kernel_rfl) (of_decide_eq_true (by kernel_rfl)) k0 bel lt0) trodAll_mk0), rfl, bel.frame _, fun h => by cases h⟩

theorem closed : joinedFacts Try.prog 23 Try.f23 Rows.fnLoginFromSpec Rows.fnLoginFromRow = true := by
  unfold joinedFacts
  repeat' (with_reducible refine band ?_ ?_)
  all_goals (with_reducible (first | exact Try.laidOut | exact kMaps | exact kStops | exact kKnobs | exact kHeard | exact kEnter | refine eqPlain ?_ | refine eqLift ?_ | refine eqMake ?_ | skip))
  all_goals (as_aux_lemma => kernel_rfl)

/-- THE STATEMENT -/
theorem proved : Rows.FnLoginFromSaid :=
  OpenClaim.holds_of_wide 23 Try.f23 rfl rfl rfl rfl rfl rfl rfl ⟨rfl, rfl, rfl, rfl, rfl⟩ rfl rfl rfl rfl rfl (by as_aux_lemma => kernel_rfl) Try.func23 closed
    (of_decide_eq_true (by as_aux_lemma => kernel_rfl)) (by unfold Func.isWrapper; first | (rw [if_pos (by decide +kernel)]; kernel_rfl) | (rw [if_neg (by decide +kernel)]; exact ⟨rfl, rfl⟩))
    (fun os started H enc _ => lifted os started H enc)
end Go.Proofs.Yticlgmdmkomdbaa.fnLoginFrom

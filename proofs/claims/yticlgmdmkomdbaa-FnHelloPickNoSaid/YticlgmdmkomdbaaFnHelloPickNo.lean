/-
  Without a common method none is taken: true for every code. Conditions: none.
-/
import Derived.Test.YticlgmdmkomdbaaKit
import Derived.Test.YticlgmdmkomdbaaHelloPick
import Derived.Test.YticlgmdmkomdbaaHello
import Derived.Test.YticlgmdmkomdbaaDrawMethods
namespace Go.Proofs.Yticlgmdmkomdbaa.fnHelloPickNo
open Go.ChangeShapes Go.WideShapes Go.ChangeAt Go.RowKit

set_option maxRecDepth 100000 in
set_option maxHeartbeats 4000000 in
theorem walk (v : Value) (bs : List Int) (w : World) (hv : Came .u8 w w.heap.size v bs) : Calls Try.prog 10 #[v] w fun e w' => e = .returned (.bool true) ∧ Below w.heap.size w w' := by
  have hv0 := Lib.hid hv
  obtain ⟨A, c, rfl, hc, hm, _, _⟩ := hv
  by_cases hl : 1048576 < bs.length
  · have hl' : (1048576 : Int) < (bs.length : Int) := by omega
    go_enter Try.func10, Try.ntmps10
    go_wp2_with fail
    go_ret
    exact ⟨rfl, Below.refl _ _⟩
  · have hl' : (bs.length : Int) ≤ 1048576 := by omega
    clear hl
    go_enter Try.func10, Try.ntmps10
    go_wp2_with fail
    refine (DrawHelloPick_any _ bs w hv0.out).mono ?_
    rintro e w1 ⟨v1, v2, a, m, rfl, i1, i2, la, lm, b1⟩
    have I1 := Lib.hid i1
    have I2 := Lib.hid i2
    have B1 := Lib.hid b1
    clear i1 i2 b1
    obtain ⟨A1, c1, rfl, hc1, hm1, hA1⟩ := I1.out.open_
    obtain ⟨A2, c2, rfl, hc2, hm2, hA2⟩ := I2.out.open_
    go_wp2_with fail
    refine (impl_HelloPick_any _ _ a m _ I1.out I2.out).mono ?_
    rintro e w' ⟨rfl, rfl⟩
    go_wp2_with fail
    refine (spec_HelloPick_any _ _ a m _ I1.out I2.out).mono ?_
    rintro e w' ⟨rfl, n1, rfl⟩
    obtain ⟨P, hP⟩ : ∃ P, pickL a m = P := ⟨_, rfl⟩
    rw [hP]
    have HP := Lib.hid hP
    clear hP
    go_wp2_with fail
    refine (impl_HelloBytes_any _ a _ (I1.out.drewN n1)).mono ?_
    rintro e w2 ⟨v3, rfl, o3, b3⟩
    have I12 := Lib.hid ((I1.out.drewN n1).below b3)
    have I22 := Lib.hid ((I2.out.drewN n1).below b3)
    have B2 := Lib.hid ((below_drewN B1.out n1).trans (b3.mono B1.out.size))
    clear o3 b3
    go_wp2_with fail
    refine (impl_HelloBytes_any _ m _ I22.out).mono ?_
    rintro e w3 ⟨v4, rfl, o4, b4⟩
    have I13 := Lib.hid (I12.out.below b4)
    have I23 := Lib.hid (I22.out.below b4)
    have B3 := Lib.hid (B2.out.trans (b4.mono B2.out.size))
    clear o4 b4 I1 I2 I12 I22 hA1 hA2 B1 B2
    obtain ⟨A1', c1', he1, _, _, hA1⟩ := I13.out.open_
    injection he1 with e1 e2 e3
    subst e1 e3
    obtain ⟨A2', c2', he2, _, _, hA2⟩ := I23.out.open_
    injection he2 with e4 e5 e6
    subst e4 e6
    clear e2 e5
    go_wp2_with fail
    go_loopw [11, 12] (fun s i wr => ∃ k q : Nat, k ≤ a.length ∧ i = .int .i64 k ∧ s = .bool (anyTo a m k) ∧ wr = w3.drewN q) (fun _ i _ => a.length - (intOf i).toNat)
    case atStart => exact ⟨0, 0, Nat.zero_le _, rfl, by simp [anyTo], rfl⟩
    case round =>
      obtain ⟨k, q, hk, rfl, rfl, rfl⟩ := hrel
      by_cases hka : k < a.length
      · obtain ⟨b, o, rfl, _, hb, hs⟩ := hA1.resolve_left (fun h => by rw [h] at hka; simp at hka)
        have cy := hs.int_at (j := k) hka
        obtain ⟨y, hy⟩ : ∃ y, a.getD k 0 = y := ⟨_, rfl⟩
        rw [hy] at cy
        have HY := Lib.hid hy
        have ki : (k : Int) < (a.length : Int) := by omega
        have ki0 : (0 : Int) ≤ (k : Int) := by omega
        obtain ⟨s0, hs0⟩ : ∃ s0, anyTo a m k = s0 := ⟨_, rfl⟩
        rw [hs0]
        have HS0 := Lib.hid hs0
        clear hs hy hs0
        go_wp2_with fail
        go_loopw [11, 13] (fun s j wr => ∃ t q : Nat, t ≤ m.length ∧ j = .int .i64 t ∧ s = .bool (s0 || hasI (m.take t) y) ∧ wr = w3.drewN q) (fun _ j _ => m.length - (intOf j).toNat)
        case atStart => exact ⟨0, q, Nat.zero_le _, rfl, by simp [hasI], rfl⟩
        case round =>
          obtain ⟨t, q, ht, rfl, rfl, rfl⟩ := hrel
          by_cases htm : t < m.length
          · have ti : (t : Int) < (m.length : Int) := by omega
            have ti0 : (0 : Int) ≤ (t : Int) := by omega
            cases hs1 : (s0 || hasI (m.take t) y)
            · rw [Bool.or_eq_false_iff] at hs1
              obtain ⟨hs2, hs3⟩ := hs1
              subst hs2
              obtain ⟨b', o', rfl, _, hb', hs'⟩ := hA2.resolve_left (fun h => by rw [h] at htm; simp at htm)
              have cx := hs'.int_at (j := t) htm
              obtain ⟨x, hx⟩ : ∃ x, m.getD t 0 = x := ⟨_, rfl⟩
              rw [hx] at cx
              have HS := Lib.hid (hasI_next htm hx hs3)
              clear hs' hx hs3
              go_wp2_with fail
              go_quiet (fail)
              go_wp2_with fail
              go_roundw
              case rel => exact ⟨t + 1, _, by omega, by go_num, by rw [HS.out]; simp [Bool.beq_eq_decide_eq, eq_comm], by first | exact rfl | exact World.drewN_drewN _ _ _⟩
              case measure => simp [intOf]; omega
            · have HS : Hid ((s0 || hasI (m.take (t + 1)) y) = true) := Lib.hid (by
                rw [Bool.or_eq_true] at hs1 ⊢
                rcases hs1 with h | h
                · exact .inl h
                · exact .inr (hasI_stays h))
              clear hs1
              go_wp2_with fail
              go_quiet (fail)
              go_wp2_with fail
              go_roundw
              case rel => exact ⟨t + 1, _, by omega, by go_num, by rw [HS.out], by first | exact rfl | exact World.drewN_drewN _ _ _⟩
              case measure => simp [intOf]; omega
          · have e1 : m.take t = m := List.take_of_length_le (by omega)
            rw [e1]
            clear e1
            have HN : Hid (anyTo a m (k + 1) = (s0 || hasI m y)) := Lib.hid (by rw [anyTo_succ, HS0.out, HY.out])
            go_wp2_with fail
            exact ⟨⟨k + 1, _, by omega, by go_num, by rw [HN.out], rfl⟩, by simp [intOf]; omega⟩
      · have hka' : k = a.length := by omega
        have HB : Hid ((!methodsOk a || (!methodsOk m || (P == 255) != anyTo a m k)) = true) := Lib.hid (by
          cases h1 : methodsOk a
          · rfl
          · cases h2 : methodsOk m
            · rfl
            · rw [hka', ← HP.out, pick_any_iff h1 h2]
              cases anyTo a m a.length <;> rfl)
        clear hka'
        revert HB
        cases methodsOk a
        · intro _
          go_wp2_with fail
          go_ret
          exact ⟨rfl, below_drewN B3.out _⟩
        · cases methodsOk m
          · intro _
            go_wp2_with fail
            go_ret
            exact ⟨rfl, below_drewN B3.out _⟩
          · cases hp : (P == 255)
            · cases anyTo a m k
              · intro HB
                exact absurd HB.out (by decide)
              · intro _
                go_wp2_with fail
                go_ret
                exact ⟨rfl, below_drewN B3.out _⟩
            · cases anyTo a m k
              · intro _
                go_wp2_with fail
                go_ret
                exact ⟨rfl, below_drewN B3.out _⟩
              · intro HB
                exact absurd HB.out (by decide)
set_option maxRecDepth 100000 in
theorem lifted (os : Os) (started : os.Started) (H : Type) (enc : TypeId × Value → H) :
    ReturnsInHanded {} Try.checked os 10 .any (Rows.fnHelloPickNoSpec.pre6 enc Try.prog Try.f10 Rows.fnHelloPickNoRow.domain false) (Rows.fnHelloPickNoSpec.post enc Try.prog Try.f10 false true false false) := by
  refine returnsInHanded_of_change (C := Try.checked) Try.own started (by kernel_rfl) Try.func10
    (ChangeSpec.witness6 (enc := enc) (C := Try.checked) false ⟨#[], #[.slice none 0 0], []⟩ 8 (by kernel_rfl) (by kernel_rfl) (by kernel_rfl) (by kernel_rfl)) ?_
  intro W base args ds gs before hval0 hW hcnd _
  have hval : ∀ (j : Nat) t v, Try.f10.params[j]? = some t → args[j]? = some v → Value.okWide Try.prog W .any base t v := hval0
  have hW' := hW
  obtain ⟨p, q, hA0, hV, rfl, hfz, hnd⟩ := hW
  have hA : DataW.TrodAll enc Try.prog W 0 (fun _ => true) true Try.f10.params.toList args.toList ds p := hA0
  rw [Try.params10] at hA hval
  obtain ⟨v0, vs0, d0, ds0, p0, q0, hargs, rfl, rfl, h0, r0⟩ := trodAll_cons hA
  obtain ⟨rfl, rfl, rfl⟩ := trodAll_nil r0
  obtain rfl : args = #[v0] := by cases args; simp_all
  obtain ⟨rfl, rfl⟩ := trodVars_none hV
  obtain ⟨a0, len0, cap0, rfl⟩ := okWide_slice Try.underlying27 (hval 0 27 v0 rfl rfl)
  have k0 := h0
  have lt0 : ∀ x ∈ p0, x.block < W.heap.size := by obtain ⟨m, hm⟩ := k0; exact DataW.trod_lt m _ _ _ hm
  obtain ⟨z0, w0⟩ : ∃ zs, IsRow .u8 W a0 len0 cap0 zs := by
    obtain ⟨fuel, hf⟩ := h0
    rcases open_ints Try.underlying27 Try.underlying5 (by kernel_rfl) hf with ⟨hcs, _⟩ | ⟨x, l, c, zs, hcs, _, hl, hm, hz, _, hcell, hwz⟩
    · simp [Value.cells] at hcs
      obtain ⟨rfl, rfl, rfl⟩ := hcs
      exact ⟨[], .inl ⟨rfl, rfl, rfl, rfl⟩⟩
    · simp [Value.cells] at hcs
      obtain ⟨rfl, rfl, rfl⟩ := hcs
      exact ⟨zs, .inr ⟨_, rfl, hl, hm, by simpa using hz, hcell, hwz⟩⟩
  clear hA0 hval0
  refine (walk (.slice a0 len0 cap0) _ W ((Came.of_row w0).1)).mono fun e W' ⟨he, bel⟩ => ?_
  subst he
  exact ⟨_, rfl, _, _, _, [], _, [], hW', trodAll_mk1 (shut_bool Try.underlying4 _), (trodAll_cons_mk (Below.trod Try.laidOut (by kernel_rfl) (of_decide_eq_true (by kernel_rfl)) k0 bel lt0) trodAll_mk0), rfl, bel.frame _, fun h => by cases h⟩

theorem closed : joinedFacts Try.prog 10 Try.f10 Rows.fnHelloPickNoSpec Rows.fnHelloPickNoRow = true := by
  unfold joinedFacts
  repeat' (with_reducible refine band ?_ ?_)
  all_goals (with_reducible (first | exact Try.laidOut | exact kMaps | exact kStops | exact kKnobs | exact kHeard | exact kEnter | refine eqPlain ?_ | refine eqLift ?_ | refine eqMake ?_ | skip))
  all_goals (as_aux_lemma => kernel_rfl)

/-- THE STATEMENT -/
theorem proved : Rows.FnHelloPickNoSaid :=
  OpenClaim.holds_of_wide 10 Try.f10 rfl rfl rfl rfl rfl rfl rfl ⟨rfl, rfl, rfl, rfl, rfl⟩ rfl rfl rfl rfl rfl (by as_aux_lemma => kernel_rfl) Try.func10 closed
    (of_decide_eq_true (by as_aux_lemma => kernel_rfl)) (by unfold Func.isWrapper; first | (rw [if_pos (by decide +kernel)]; kernel_rfl) | (rw [if_neg (by decide +kernel)]; exact ⟨rfl, rfl⟩))
    (fun os started H enc _ => lifted os started H enc)
end Go.Proofs.Yticlgmdmkomdbaa.fnHelloPickNo

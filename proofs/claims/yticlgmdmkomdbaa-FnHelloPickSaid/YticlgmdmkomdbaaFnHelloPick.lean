/-
  A method that is taken is one of both sides, and no earlier wanted one is: true for every code. Conditions: none.
-/
import Derived.Test.YticlgmdmkomdbaaKit
import Derived.Test.YticlgmdmkomdbaaHelloPick
import Derived.Test.YticlgmdmkomdbaaDrawMethods
namespace Go.Proofs.Yticlgmdmkomdbaa.fnHelloPick
open Go.ChangeShapes Go.WideShapes Go.ChangeAt Go.RowKit

theorem hasI_next {m : List Int} {k : Nat} {x y : Int} (hk : k < m.length) (hx : m.getD k 0 = x) (h : hasI (m.take k) y = false) : hasI (m.take (k + 1)) y = (x == y) := by
  by_cases e : x = y
  · subst e
    have : hasI (m.take (k + 1)) x = true := hasI_here (k := k) (by simp; omega) (by simp only [List.getD, List.getElem?_take]; rw [if_pos (by omega)]; exact hx)
    rw [this]; simp
  · rw [hasI_take hk h hx e]; simp [e]
theorem hasI_stays {m : List Int} {k : Nat} {y : Int} (h : hasI (m.take k) y = true) : hasI (m.take (k + 1)) y = true := by
  unfold hasI at *
  simp only [decide_eq_true_eq] at *
  have e : (m.take (k + 1)).take k = m.take k := by rw [List.take_take, Nat.min_eq_left (by omega)]
  rw [← e] at h
  exact List.mem_of_mem_take h

set_option maxRecDepth 100000 in
set_option maxHeartbeats 4000000 in
theorem walk (v : Value) (bs : List Int) (w : World) (hv : Came .u8 w w.heap.size v bs) : Calls Try.prog 6 #[v] w fun e w' => e = .returned (.bool true) ∧ Below w.heap.size w w' := by
  have hv0 := Lib.hid hv
  obtain ⟨A, c, rfl, hc, hm, _, _⟩ := hv
  by_cases hl : 1048576 < bs.length
  · have hl' : (1048576 : Int) < (bs.length : Int) := by omega
    go_enter Try.func6, Try.ntmps6
    go_wp2_with fail
    go_ret
    exact ⟨rfl, Below.refl _ _⟩
  · have hl' : (bs.length : Int) ≤ 1048576 := by omega
    clear hl
    go_enter Try.func6, Try.ntmps6
    go_wp2_with fail
    refine (DrawHelloPick_any _ bs w hv0.out).mono ?_
    rintro e w1 ⟨v1, v2, a, m, rfl, i1, i2, la, lm, b1⟩
    have I1 := Lib.hid i1
    have I2 := Lib.hid i2
    have B1 := Lib.hid b1
    clear i1 i2 b1
    obtain ⟨A1, c1, rfl, hc1, hm1, hA1⟩ := I1.out.open_
    obtain ⟨A2, c2, rfl, hc2, hm2, hA2⟩ := I2.out.open_
    go_wp2_with fail
    refine (impl_HelloPick_any _ _ a m _ I1.out I2.out).mono ?_
    rintro e w' ⟨rfl, rfl⟩
    go_wp2_with fail
    refine (spec_HelloPick_any _ _ a m _ I1.out I2.out).mono ?_
    rintro e w' ⟨rfl, n1, rfl⟩
    obtain ⟨P, hP⟩ : ∃ P, pickL a m = P := ⟨_, rfl⟩
    rw [hP]
    by_cases h255 : P = 255
    · subst h255
      clear hP
      go_wp2_with fail
      go_ret
      exact ⟨rfl, below_drewN B1.out _⟩
    · have hne : (P == 255) = false := by simpa using h255
      have hw : ∃ k, k < a.length ∧ NoneTo a m k ∧ a.getD k 0 = P ∧ hasI m P = true := by
        unfold pickL at hP
        split at hP
        · rw [← hP]; exact pick_where a (by rw [hP]; exact h255)
        · exact absurd hP.symm h255
      obtain ⟨i0, hi0, hN, hiP, hmP⟩ := hw
      have HN := Lib.hid hN
      have HI := Lib.hid hiP
      have HM := Lib.hid hmP
      clear hN hiP hmP hP h255
      go_wp2_with fail
      go_loopw [7] (fun i wr => ∃ k q : Nat, k ≤ i0 ∧ i = .int .i64 k ∧ wr = w1.drewN q) (fun i _ => a.length - (intOf i).toNat)
      case atStart => exact ⟨0, _, Nat.zero_le _, rfl, rfl⟩
      case round =>
        obtain ⟨k, q, hk, rfl, rfl⟩ := hrel
        obtain ⟨b, o, rfl, _, hb, hs⟩ := hA1.resolve_left (fun h => by rw [h] at hi0; simp at hi0)
        have cy := hs.int_at (j := k) (by omega)
        obtain ⟨y, hy⟩ : ∃ y, a.getD k 0 = y := ⟨_, rfl⟩
        rw [hy] at cy
        have HY := Lib.hid hy
        have ki : (k : Int) < (a.length : Int) := by omega
        have ki0 : (0 : Int) ≤ (k : Int) := by omega
        clear hs hy
        go_wp2_with fail
        go_loopw [8, 9] (fun s j wr => ∃ t q : Nat, t ≤ m.length ∧ j = .int .i64 t ∧ s = .bool (hasI (m.take t) y) ∧ wr = w1.drewN q) (fun _ j _ => m.length - (intOf j).toNat)
        case atStart => exact ⟨0, q, Nat.zero_le _, rfl, by simp [hasI], rfl⟩
        case round =>
          obtain ⟨t, q, ht, rfl, rfl, rfl⟩ := hrel
          by_cases htm : t < m.length
          · have ti : (t : Int) < (m.length : Int) := by omega
            have ti0 : (0 : Int) ≤ (t : Int) := by omega
            cases hs1 : hasI (m.take t) y
            · obtain ⟨b', o', rfl, _, hb', hs'⟩ := hA2.resolve_left (fun h => by rw [h] at htm; simp at htm)
              have cx := hs'.int_at (j := t) htm
              obtain ⟨x, hx⟩ : ∃ x, m.getD t 0 = x := ⟨_, rfl⟩
              rw [hx] at cx
              have HS := Lib.hid (hasI_next htm hx hs1)
              clear hs' hx hs1
              go_wp2_with fail
              go_quiet (fail)
              go_wp2_with fail
              go_roundw
              case rel => exact ⟨t + 1, _, by omega, by go_num, by rw [HS.out], by first | exact rfl | exact World.drewN_drewN _ _ _⟩
              case measure => simp [intOf]; omega
            · have HS := Lib.hid (hasI_stays hs1)
              clear hs1
              go_wp2_with fail
              go_quiet (fail)
              go_wp2_with fail
              go_roundw
              case rel => exact ⟨t + 1, _, by omega, by go_num, by rw [HS.out], by first | exact rfl | exact World.drewN_drewN _ _ _⟩
              case measure => simp [intOf]; omega
          · have e1 : m.take t = m := List.take_of_length_le (by omega)
            rw [e1]
            clear e1
            by_cases hki : k = i0
            · have hyP : y = P := by rw [← HY.out, hki]; exact HI.out
              subst hyP
              have hm1 := HM.out
              clear hki
              rw [hm1]
              go_wp2_with fail
              go_ret
              exact ⟨rfl, below_drewN B1.out _⟩
            · have hm1 : hasI m y = false := by rw [← HY.out]; exact HN.out k (by omega)
              have hyP : (y == P) = false := by
                rw [beq_eq_false_iff_ne]
                intro h
                rw [h, HM.out] at hm1
                cases hm1
              have hkl : k < i0 := by omega
              clear hki
              rw [hm1]
              go_wp2_with fail
              exact ⟨⟨k + 1, _, by omega, by go_num, rfl⟩, by simp [intOf]; omega⟩
set_option maxRecDepth 100000 in
theorem lifted (os : Os) (started : os.Started) (H : Type) (enc : TypeId × Value → H) :
    ReturnsInHanded {} Try.checked os 6 .any (Rows.fnHelloPickSpec.pre6 enc Try.prog Try.f6 Rows.fnHelloPickRow.domain false) (Rows.fnHelloPickSpec.post enc Try.prog Try.f6 false true false false) := by
  refine returnsInHanded_of_change (C := Try.checked) Try.own started (by kernel_rfl) Try.func6
    (ChangeSpec.witness6 (enc := enc) (C := Try.checked) false ⟨#[], #[.slice none 0 0], []⟩ 8 (by kernel_rfl) (by kernel_rfl) (by kernel_rfl) (by kernel_rfl)) ?_
  intro W base args ds gs before hval0 hW hcnd _
  have hval : ∀ (j : Nat) t v, Try.f6.params[j]? = some t → args[j]? = some v → Value.okWide Try.prog W .any base t v := hval0
  have hW' := hW
  obtain ⟨p, q, hA0, hV, rfl, hfz, hnd⟩ := hW
  have hA : DataW.TrodAll enc Try.prog W 0 (fun _ => true) true Try.f6.params.toList args.toList ds p := hA0
  rw [Try.params6] at hA hval
  obtain ⟨v0, vs0, d0, ds0, p0, q0, hargs, rfl, rfl, h0, r0⟩ := trodAll_cons hA
  obtain ⟨rfl, rfl, rfl⟩ := trodAll_nil r0
  obtain rfl : args = #[v0] := by cases args; simp_all
  obtain ⟨rfl, rfl⟩ := trodVars_none hV
  obtain ⟨a0, len0, cap0, rfl⟩ := okWide_slice Try.underlying27 (hval 0 27 v0 rfl rfl)
  have k0 := h0
  have lt0 : ∀ x ∈ p0, x.block < W.heap.size := by obtain ⟨m, hm⟩ := k0; exact DataW.trod_lt m _ _ _ hm
  obtain ⟨z0, w0⟩ : ∃ zs, IsRow .u8 W a0 len0 cap0 zs := by
    obtain ⟨fuel, hf⟩ := h0
    rcases open_ints Try.underlying27 Try.underlying5 (by kernel_rfl) hf with ⟨hcs, _⟩ | ⟨x, l, c, zs, hcs, _, hl, hm, hz, _, hcell, hwz⟩
    · simp [Value.cells] at hcs
      obtain ⟨rfl, rfl, rfl⟩ := hcs
      exact ⟨[], .inl ⟨rfl, rfl, rfl, rfl⟩⟩
    · simp [Value.cells] at hcs
      obtain ⟨rfl, rfl, rfl⟩ := hcs
      exact ⟨zs, .inr ⟨_, rfl, hl, hm, by simpa using hz, hcell, hwz⟩⟩
  clear hA0 hval0
  refine (walk (.slice a0 len0 cap0) _ W ((Came.of_row w0).1)).mono fun e W' ⟨he, bel⟩ => ?_
  subst he
  exact ⟨_, rfl, _, _, _, [], _, [], hW', trodAll_mk1 (shut_bool Try.underlying4 _), (trodAll_cons_mk (Below.trod Try.laidOut (by kernel_rfl) (of_decide_eq_true (by kernel_rfl)) k0 bel lt0) trodAll_mk0), rfl, bel.frame _, fun h => by cases h⟩

theorem closed : joinedFacts Try.prog 6 Try.f6 Rows.fnHelloPickSpec Rows.fnHelloPickRow = true := by
  unfold joinedFacts
  repeat' (with_reducible refine band ?_ ?_)
  all_goals (with_reducible (first | exact Try.laidOut | exact kMaps | exact kStops | exact kKnobs | exact kHeard | exact kEnter | refine eqPlain ?_ | refine eqLift ?_ | refine eqMake ?_ | skip))
  all_goals (as_aux_lemma => kernel_rfl)

/-- THE STATEMENT -/
theorem proved : Rows.FnHelloPickSaid :=
  OpenClaim.holds_of_wide 6 Try.f6 rfl rfl rfl rfl rfl rfl rfl ⟨rfl, rfl, rfl, rfl, rfl⟩ rfl rfl rfl rfl rfl (by as_aux_lemma => kernel_rfl) Try.func6 closed
    (of_decide_eq_true (by as_aux_lemma => kernel_rfl)) (by unfold Func.isWrapper; first | (rw [if_pos (by decide +kernel)]; kernel_rfl) | (rw [if_neg (by decide +kernel)]; exact ⟨rfl, rfl⟩))
    (fun os started H enc _ => lifted os started H enc)
end Go.Proofs.Yticlgmdmkomdbaa.fnHelloPick

/-
  Two bytes are a method: true for every code. Conditions: none.
-/
import Derived.Test.YticlgmdmkomdbaaKit
import Derived.Test.YticlgmdmkomdbaaDrawHello
import Derived.Test.YticlgmdmkomdbaaBegin
namespace Go.Proofs.Yticlgmdmkomdbaa.fnPickFrom
open Go.ChangeShapes Go.WideShapes Go.ChangeAt Go.RowKit

theorem pick_of_pf {zs : List Int} (h : pfOk zs = true) : inR (pfV zs) 0 255 = true ∧ beginL zs (pickB (pfV zs)) = true ∧ pfN zs = 2 := by
  have e1 : pfV zs = zs.getD 1 0 := by rw [pfV, h]; rfl
  have e2 : pfN zs = 2 := by rw [pfN, h]; rfl
  simp only [pfOk, Bool.and_eq_true, decide_eq_true_eq] at h
  obtain ⟨⟨hv, hl⟩, h0⟩ := h
  match zs, hl, h0, hv, e1, e2 with
  | x :: y :: r, _, h0, hv, e1, e2 =>
    have hx : x = 5 := h0
    subst hx
    have hy : pfV (5 :: y :: r) = y := e1
    have hr := bytes_of_valid hv y (by simp)
    have hi : inR y 0 255 = true := by simp [inR, hr]
    rw [hy]
    refine ⟨hi, ?_, e2⟩
    simp [beginL, pickB, hi]

set_option maxRecDepth 100000 in
set_option maxHeartbeats 2000000 in
theorem walk (v : Value) (bs : List Int) (w : World) (hv : Came .u8 w w.heap.size v bs) : Calls Try.prog 15 #[v] w fun e w' => e = .returned (.bool true) ∧ Below w.heap.size w w' := by
  have hv0 := Lib.hid hv
  obtain ⟨A, c, rfl, hc, hm, _, _⟩ := hv
  by_cases hl : 1048576 < bs.length
  · have hl' : (1048576 : Int) < (bs.length : Int) := by omega
    go_enter Try.func15, Try.ntmps15
    go_wp2_with fail
    go_ret
    exact ⟨rfl, Below.refl _ _⟩
  · have hl' : (bs.length : Int) ≤ 1048576 := by omega
    clear hl
    go_enter Try.func15, Try.ntmps15
    go_wp2_with fail
    refine (DrawPickFrom_any _ bs w hv0.out).mono ?_
    rintro e w1 ⟨v1, zs, rfl, i1, _, b1⟩
    have I1 := Lib.hid i1
    have B1 := Lib.hid b1
    clear i1 b1
    go_wp2_with fail
    refine (impl_PickFrom_any _ zs _ I1.out).mono ?_
    rintro e w2 ⟨rfl, b2⟩
    have I2 := Lib.hid (I1.out.below b2)
    have B2 := Lib.hid (B1.out.trans (b2.mono B1.out.size))
    clear b2 I1
    go_wp2_with fail
    refine (spec_PickFrom_any _ zs _ I2.out).mono ?_
    rintro e w3 ⟨rfl, rfl⟩
    cases hok : pfOk zs
    · obtain ⟨x, hx⟩ : ∃ x, pfV zs = x := ⟨_, rfl⟩
      obtain ⟨y, hy⟩ : ∃ y, pfN zs = y := ⟨_, rfl⟩
      rw [hx, hy]
      clear hx hy hok
      go_wp2_with fail
      go_ret
      exact ⟨rfl, B2.out⟩
    · have E := Lib.hid (pick_of_pf hok)
      rw [E.out.2.2]
      obtain ⟨x, hx⟩ : ∃ x, pfV zs = x := ⟨_, rfl⟩
      have E1 : Hid (inR x 0 255 = true) := Lib.hid (by rw [← hx]; exact E.out.1)
      have E2 : Hid (beginL zs (pickB x) = true) := Lib.hid (by rw [← hx]; exact E.out.2.1)
      rw [hx]
      clear hx hok
      go_wp2_with fail
      refine (impl_PickBytes_any x _).mono ?_
      rintro e w3 ⟨v3, rfl, o3, b3⟩
      rw [E1.out]
      have I3 := Lib.hid (I2.out.below b3)
      have O3 := Lib.hid o3.ints.zero
      have B3 := Lib.hid (B2.out.trans (b3.mono B2.out.size))
      clear o3 b3
      go_wp2_with fail
      refine (isBegin_any _ _ zs (pickB x) _ I3.out O3.out).mono ?_
      rintro e w4 ⟨rfl, n4, rfl⟩
      rw [E2.out]
      go_wp2_with fail
      go_ret
      exact ⟨rfl, below_drewN B3.out _⟩
set_option maxRecDepth 100000 in
theorem lifted (os : Os) (started : os.Started) (H : Type) (enc : TypeId × Value → H) :
    ReturnsInHanded {} Try.checked os 15 .any (Rows.fnPickFromSpec.pre6 enc Try.prog Try.f15 Rows.fnPickFromRow.domain false) (Rows.fnPickFromSpec.post enc Try.prog Try.f15 false true false false) := by
  refine returnsInHanded_of_change (C := Try.checked) Try.own started (by kernel_rfl) Try.func15
    (ChangeSpec.witness6 (enc := enc) (C := Try.checked) false ⟨#[], #[.slice none 0 0], []⟩ 8 (by kernel_rfl) (by kernel_rfl) (by kernel_rfl) (by kernel_rfl)) ?_
  intro W base args ds gs before hval0 hW hcnd _
  have hval : ∀ (j : Nat) t v, Try.f15.params[j]? = some t → args[j]? = some v → Value.okWide Try.prog W .any base t v := hval0
  have hW' := hW
  obtain ⟨p, q, hA0, hV, rfl, hfz, hnd⟩ := hW
  have hA : DataW.TrodAll enc Try.prog W 0 (fun _ => true) true Try.f15.params.toList args.toList ds p := hA0
  rw [Try.params15] at hA hval
  obtain ⟨v0, vs0, d0, ds0, p0, q0, hargs, rfl, rfl, h0, r0⟩ := trodAll_cons hA
  obtain ⟨rfl, rfl, rfl⟩ := trodAll_nil r0
  obtain rfl : args = #[v0] := by cases args; simp_all
  obtain ⟨rfl, rfl⟩ := trodVars_none hV
  obtain ⟨a0, len0, cap0, rfl⟩ := okWide_slice Try.underlying27 (hval 0 27 v0 rfl rfl)
  have k0 := h0
  have lt0 : ∀ x ∈ p0, x.block < W.heap.size := by obtain ⟨m, hm⟩ := k0; exact DataW.trod_lt m _ _ _ hm
  obtain ⟨z0, w0⟩ : ∃ zs, IsRow .u8 W a0 len0 cap0 zs := by
    obtain ⟨fuel, hf⟩ := h0
    rcases open_ints Try.underlying27 Try.underlying5 (by kernel_rfl) hf with ⟨hcs, _⟩ | ⟨x, l, c, zs, hcs, _, hl, hm, hz, _, hcell, hwz⟩
    · simp [Value.cells] at hcs
      obtain ⟨rfl, rfl, rfl⟩ := hcs
      exact ⟨[], .inl ⟨rfl, rfl, rfl, rfl⟩⟩
    · simp [Value.cells] at hcs
      obtain ⟨rfl, rfl, rfl⟩ := hcs
      exact ⟨zs, .inr ⟨_, rfl, hl, hm, by simpa using hz, hcell, hwz⟩⟩
  clear hA0 hval0
  refine (walk (.slice a0 len0 cap0) _ W ((Came.of_row w0).1)).mono fun e W' ⟨he, bel⟩ => ?_
  subst he
  exact ⟨_, rfl, _, _, _, [], _, [], hW', trodAll_mk1 (shut_bool Try.underlying4 _), (trodAll_cons_mk (Below.trod Try.laidOut (by kernel_rfl) (of_decide_eq_true (by kernel_rfl)) k0 bel lt0) trodAll_mk0), rfl, bel.frame _, fun h => by cases h⟩

theorem closed : joinedFacts Try.prog 15 Try.f15 Rows.fnPickFromSpec Rows.fnPickFromRow = true := by
  unfold joinedFacts
  repeat' (with_reducible refine band ?_ ?_)
  all_goals (with_reducible (first | exact Try.laidOut | exact kMaps | exact kStops | exact kKnobs | exact kHeard | exact kEnter | refine eqPlain ?_ | refine eqLift ?_ | refine eqMake ?_ | skip))
  all_goals (as_aux_lemma => kernel_rfl)

/-- THE STATEMENT -/
theorem proved : Rows.FnPickFromSaid :=
  OpenClaim.holds_of_wide 15 Try.f15 rfl rfl rfl rfl rfl rfl rfl ⟨rfl, rfl, rfl, rfl, rfl⟩ rfl rfl rfl rfl rfl (by as_aux_lemma => kernel_rfl) Try.func15 closed
    (of_decide_eq_true (by as_aux_lemma => kernel_rfl)) (by unfold Func.isWrapper; first | (rw [if_pos (by decide +kernel)]; kernel_rfl) | (rw [if_neg (by decide +kernel)]; exact ⟨rfl, rfl⟩))
    (fun os started H enc _ => lifted os started H enc)
end Go.Proofs.Yticlgmdmkomdbaa.fnPickFrom

/-
  A login that fits is in the list: true for every code. Conditions: none.
-/
import Derived.Test.YticlgmdmkomdbaaKit
import Derived.Test.YticlgmdmkomdbaaDrawFits
import Derived.Test.YticlgmdmkomdbaaLoginBytes
namespace Go.Proofs.Yticlgmdmkomdbaa.fnLoginFits
open Go.ChangeShapes Go.WideShapes Go.ChangeAt Go.RowKit

theorem hasP_next {ls : List (ByteArray × ByteArray)} {k : Nat} {x y : ByteArray × ByteArray} (hy : ls[k]? = some y) : hasP (ls.take (k + 1)) x = (hasP (ls.take k) x || sameP y x) := by
  unfold hasP
  have hk : k < ls.length := (List.getElem?_eq_some_iff.1 hy).1
  have he : ls[k] = y := (List.getElem?_eq_some_iff.1 hy).2
  rw [List.take_succ_eq_append_getElem hk, he, List.any_append]
  simp

set_option maxRecDepth 100000 in
set_option maxHeartbeats 4000000 in
theorem walk (v : Value) (bs : List Int) (w : World) (hv : Came .u8 w w.heap.size v bs) : Calls Try.prog 13 #[v] w fun e w' => e = .returned (.bool true) ∧ Below w.heap.size w w' := by
  have hv0 := Lib.hid hv
  obtain ⟨A, c, rfl, hc, hm, _, _⟩ := hv
  by_cases hl : 1048576 < bs.length
  · have hl' : (1048576 : Int) < (bs.length : Int) := by omega
    go_enter Try.func13, Try.ntmps13
    go_wp2_with fail
    go_ret
    exact ⟨rfl, Below.refl _ _⟩
  have hl' : (bs.length : Int) ≤ 1048576 := by omega
  clear hl
  go_enter Try.func13, Try.ntmps13
  go_wp2_with fail
  refine (DrawLoginFits_any _ bs w hv0.out).mono ?_
  rintro e w1 ⟨u, ls, x, y, rfl, hL, hlen, hx, hy, b1⟩
  have hxm : x.size ≤ maxLen := by unfold maxLen; omega
  have hym : y.size ≤ maxLen := by unfold maxLen; omega
  have HX := Lib.hid hxm
  have HY := Lib.hid hym
  have K1 := Lib.hid (Blk.new w1 31 #[.string x, .string y])
  have B1 := Lib.hid (b1.alloc b1.size (.cells #[.string x, .string y] 31))
  have L1 := Lib.hid (hL.alloc (.cells #[.string x, .string y] 31))
  clear b1 hxm hym hL hx hy
  go_wp2_with fail
  refine (impl_LoginFits_any _ ls x y _ L1.out.lo0 HX.out HY.out).mono ?_
  rintro e w2 ⟨rfl, b2⟩
  have K2 := Lib.hid (K1.out.kept b2)
  have L2 := Lib.hid (L1.out.below b2)
  have B2 := Lib.hid (B1.out.trans (b2.mono B1.out.size))
  have a0 : w2.cell? ⟨w1.heap.size, 0, none⟩ = some (.string x) := K2.out.cell 0
  have a1 : w2.cell? ⟨w1.heap.size, 1, none⟩ = some (.string y) := K2.out.cell 1
  obtain ⟨F, hF⟩ : ∃ F, fitsL ls x y = F := ⟨_, rfl⟩
  have HF := Lib.hid hF
  rw [hF]
  clear b2 K1 L1 B1 hF
  go_wp2_with fail
  refine (spec_LoginFits_any _ ls x y _ L2.out.lo0 HX.out HY.out).mono ?_
  rintro e w3 ⟨rfl, b3⟩
  rw [HF.out]
  have K3 := Lib.hid (K2.out.kept b3)
  have L3 := Lib.hid (L2.out.below b3)
  have B3 := Lib.hid (B2.out.trans (b3.mono B2.out.size))
  have c0 : w3.cell? ⟨w1.heap.size, 0, none⟩ = some (.string x) := K3.out.cell 0
  have c1 : w3.cell? ⟨w1.heap.size, 1, none⟩ = some (.string y) := K3.out.cell 1
  clear b3 K2 L2 B2 a0 a1
  go_wp2_with fail
  refine (impl_LoginBytes_any x y _ HX.out HY.out).mono ?_
  rintro e w4 ⟨v4, rfl, o4, b4⟩
  have K4 := Lib.hid (K3.out.kept b4)
  have L4 := Lib.hid (L3.out.below b4)
  have B4 := Lib.hid (B3.out.trans (b4.mono B3.out.size))
  clear b4 o4 K3 L3 B3 c0 c1
  obtain ⟨A2, c2, rfl, hc2, hm2, hA2⟩ := L4.out.open_
  obtain ⟨n, hn⟩ : ∃ n, ls.length = n := ⟨_, rfl⟩
  have HN := Lib.hid hn
  have HA := Lib.hid hA2
  rw [hn] at hlen hc2 ⊢
  have G1 := Lib.hid (Below.refl w4.heap.size w4)
  clear hn hA2 L4
  go_wp2_with fail
  go_loopw [9, 10] (fun s i wr => ∃ (k : Nat) (q : Nat), k ≤ n ∧ i = .int .i64 k ∧ s = .bool (hasP (ls.take k) (x, y)) ∧ wr = w4.drewN q) (fun _ i _ => n - (intOf i).toNat)
  case atStart => exact ⟨0, 0, Nat.zero_le _, rfl, by simp [hasP], rfl⟩
  case round =>
    obtain ⟨k, q, hk, rfl, rfl, rfl⟩ := hrel
    by_cases hlt : k < n
    · have hki : (k : Int) < (n : Int) := by omega
      obtain ⟨b, o, rfl, _, hb, hs⟩ := HA.out.resolve_left (fun h => by have := HN.out; rw [h] at this; simp at this; omega)
      have hkl : k < ls.length := by rw [HN.out]; exact hlt
      obtain ⟨p, hp⟩ : ∃ p, ls[k]? = some p := ⟨ls[k], List.getElem?_eq_getElem hkl⟩
      obtain ⟨g0, g1⟩ := lv_get0 ls k p hp
      have HNX := Lib.hid (hasP_next (x := (x, y)) hp)
      have d0 := hs.cell g0
      have d1 := hs.cell g1
      have a0 : w4.cell? ⟨w1.heap.size, 0, none⟩ = some (.string x) := K4.out.cell 0
      have a1 : w4.cell? ⟨w1.heap.size, 1, none⟩ = some (.string y) := K4.out.cell 1
      have hi0 : (0 : Int) ≤ (k : Int) := by omega
      obtain ⟨a, d⟩ := p
      simp only at d0 d1
      rw [← Nat.add_assoc] at d1
      have q1 := Try.guardLogin
      obtain ⟨B, hB⟩ : ∃ B, (a.toList == x.toList && d.toList == y.toList) = B := ⟨_, rfl⟩
      have hB2 : sameP (a, d) (x, y) = B := by rw [← hB]; rfl
      have q2 := fun W => eq_login a d x y W
      rw [hB] at q2
      have HB2 := Lib.hid hB2
      obtain ⟨T, hT⟩ : ∃ T, hasP (ls.take k) (x, y) = T := ⟨_, rfl⟩
      have HT := Lib.hid hT
      rw [hT]
      clear hB hs g0 g1 hkl hT hp hB2
      cases T
      · go_wp2_with fail
        go_quiet (fail)
        go_wp2_with fail
        go_roundw
        case rel => exact ⟨k + 1, _, by omega, by go_num, by rw [HNX.out, HT.out, HB2.out]; rfl, by first | exact rfl | exact World.drewN_drewN _ _ _⟩
        case measure => simp [intOf]; omega
      · go_wp2_with fail
        go_quiet (fail)
        go_wp2_with fail
        go_roundw
        case rel => exact ⟨k + 1, _, by omega, by go_num, by rw [HNX.out, HT.out]; rfl, by first | exact rfl | exact World.drewN_drewN _ _ _⟩
        case measure => simp [intOf]; omega
    · have hF2 : F = (loginOk x y && hasP (ls.take k) (x, y)) := by
        rw [← HF.out, fitsL, List.take_of_length_le (by rw [HN.out]; omega)]
      obtain ⟨T, hT⟩ : ∃ T, hasP (ls.take k) (x, y) = T := ⟨_, rfl⟩
      rw [hT] at hF2 ⊢
      obtain ⟨O, hO⟩ : ∃ O, loginOk x y = O := ⟨_, rfl⟩
      rw [hO] at hF2
      clear hT
      subst hF2
      cases O <;> cases T
      all_goals
        go_wp2_with fail
        go_ret
        exact ⟨rfl, below_drewN B4.out _⟩
set_option maxRecDepth 100000 in
theorem lifted (os : Os) (started : os.Started) (H : Type) (enc : TypeId × Value → H) :
    ReturnsInHanded {} Try.checked os 13 .any (Rows.fnLoginFitsSpec.pre6 enc Try.prog Try.f13 Rows.fnLoginFitsRow.domain false) (Rows.fnLoginFitsSpec.post enc Try.prog Try.f13 false true false false) := by
  refine returnsInHanded_of_change (C := Try.checked) Try.own started (by kernel_rfl) Try.func13
    (ChangeSpec.witness6 (enc := enc) (C := Try.checked) false ⟨#[], #[.slice none 0 0], []⟩ 8 (by kernel_rfl) (by kernel_rfl) (by kernel_rfl) (by kernel_rfl)) ?_
  intro W base args ds gs before hval0 hW hcnd _
  have hval : ∀ (j : Nat) t v, Try.f13.params[j]? = some t → args[j]? = some v → Value.okWide Try.prog W .any base t v := hval0
  have hW' := hW
  obtain ⟨p, q, hA0, hV, rfl, hfz, hnd⟩ := hW
  have hA : DataW.TrodAll enc Try.prog W 0 (fun _ => true) true Try.f13.params.toList args.toList ds p := hA0
  rw [Try.params13] at hA hval
  obtain ⟨v0, vs0, d0, ds0, p0, q0, hargs, rfl, rfl, h0, r0⟩ := trodAll_cons hA
  obtain ⟨rfl, rfl, rfl⟩ := trodAll_nil r0
  obtain rfl : args = #[v0] := by cases args; simp_all
  obtain ⟨rfl, rfl⟩ := trodVars_none hV
  obtain ⟨a0, len0, cap0, rfl⟩ := okWide_slice Try.underlying27 (hval 0 27 v0 rfl rfl)
  have k0 := h0
  have lt0 : ∀ x ∈ p0, x.block < W.heap.size := by obtain ⟨m, hm⟩ := k0; exact DataW.trod_lt m _ _ _ hm
  obtain ⟨z0, w0⟩ : ∃ zs, IsRow .u8 W a0 len0 cap0 zs := by
    obtain ⟨fuel, hf⟩ := h0
    rcases open_ints Try.underlying27 Try.underlying5 (by kernel_rfl) hf with ⟨hcs, _⟩ | ⟨x, l, c, zs, hcs, _, hl, hm, hz, _, hcell, hwz⟩
    · simp [Value.cells] at hcs
      obtain ⟨rfl, rfl, rfl⟩ := hcs
      exact ⟨[], .inl ⟨rfl, rfl, rfl, rfl⟩⟩
    · simp [Value.cells] at hcs
      obtain ⟨rfl, rfl, rfl⟩ := hcs
      exact ⟨zs, .inr ⟨_, rfl, hl, hm, by simpa using hz, hcell, hwz⟩⟩
  clear hA0 hval0
  refine (walk (.slice a0 len0 cap0) _ W ((Came.of_row w0).1)).mono fun e W' ⟨he, bel⟩ => ?_
  subst he
  exact ⟨_, rfl, _, _, _, [], _, [], hW', trodAll_mk1 (shut_bool Try.underlying4 _), (trodAll_cons_mk (Below.trod Try.laidOut (by kernel_rfl) (of_decide_eq_true (by kernel_rfl)) k0 bel lt0) trodAll_mk0), rfl, bel.frame _, fun h => by cases h⟩

theorem closed : joinedFacts Try.prog 13 Try.f13 Rows.fnLoginFitsSpec Rows.fnLoginFitsRow = true := by
  unfold joinedFacts
  repeat' (with_reducible refine band ?_ ?_)
  all_goals (with_reducible (first | exact Try.laidOut | exact kMaps | exact kStops | exact kKnobs | exact kHeard | exact kEnter | refine eqPlain ?_ | refine eqLift ?_ | refine eqMake ?_ | skip))
  all_goals (as_aux_lemma => kernel_rfl)

/-- THE STATEMENT -/
theorem proved : Rows.FnLoginFitsSaid :=
  OpenClaim.holds_of_wide 13 Try.f13 rfl rfl rfl rfl rfl rfl rfl ⟨rfl, rfl, rfl, rfl, rfl⟩ rfl rfl rfl rfl rfl (by as_aux_lemma => kernel_rfl) Try.func13 closed
    (of_decide_eq_true (by as_aux_lemma => kernel_rfl)) (by unfold Func.isWrapper; first | (rw [if_pos (by decide +kernel)]; kernel_rfl) | (rw [if_neg (by decide +kernel)]; exact ⟨rfl, rfl⟩))
    (fun os started H enc _ => lifted os started H enc)
end Go.Proofs.Yticlgmdmkomdbaa.fnLoginFits

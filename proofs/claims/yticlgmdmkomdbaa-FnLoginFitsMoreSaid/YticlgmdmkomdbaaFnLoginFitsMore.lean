/-
  With further logins no fewer fit: true for every code. Conditions: none.
-/
import Derived.Test.YticlgmdmkomdbaaKit
import Derived.Test.YticlgmdmkomdbaaDrawFits
import Derived.Test.YticlgmdmkomdbaaLoginBytes2
namespace Go.Proofs.Yticlgmdmkomdbaa.fnLoginFitsMore
open Go.ChangeShapes Go.WideShapes Go.ChangeAt Go.RowKit

theorem more_fit {ls : List (ByteArray × ByteArray)} {x y : ByteArray} (p : ByteArray × ByteArray) (h : fitsL ls x y = true) : fitsL ([p] ++ ls) x y = true := by
  unfold fitsL hasP at *
  rw [Bool.and_eq_true] at h ⊢
  refine ⟨h.1, ?_⟩
  rw [List.any_append, h.2, Bool.or_true]
theorem none_fit (x y : ByteArray) : fitsL [] x y = false := by simp [fitsL, hasP]
theorem nilP {W : World} {g : Nat} (hg : g = W.heap.size) : Logins (W.alloc (.cells #[] 31)) 0 (.slice (some ⟨g, 0, none⟩) 0 0) [] := (litP0 hg (Nat.zero_le _)).logins

set_option maxRecDepth 100000 in
set_option maxHeartbeats 4000000 in
theorem walk (v : Value) (bs : List Int) (w : World) (hv : Came .u8 w w.heap.size v bs) : Calls Try.prog 5 #[v] w fun e w' => e = .returned (.bool true) ∧ Below w.heap.size w w' := by
  have hv0 := Lib.hid hv
  obtain ⟨A, c, rfl, hc, hm, _, _⟩ := hv
  by_cases hl : 1048576 < bs.length
  · have hl' : (1048576 : Int) < (bs.length : Int) := by omega
    go_enter Try.func5, Try.ntmps5
    go_wp2_with fail
    go_ret
    exact ⟨rfl, Below.refl _ _⟩
  have hl' : (bs.length : Int) ≤ 1048576 := by omega
  clear hl
  go_enter Try.func5, Try.ntmps5
  go_wp2_with fail
  refine (DrawLoginFits_any _ bs w hv0.out).mono ?_
  rintro e w1 ⟨u, ls, x, y, rfl, hL, hlen, hx, hy, b1⟩
  have hxm : x.size ≤ maxLen := by unfold maxLen; omega
  have hym : y.size ≤ maxLen := by unfold maxLen; omega
  have HX := Lib.hid hxm
  have HY := Lib.hid hym
  have K1 := Lib.hid (Blk.new w1 31 #[.string x, .string y])
  have B1 := Lib.hid (b1.alloc b1.size (.cells #[.string x, .string y] 31))
  have L1 := Lib.hid (hL.alloc (.cells #[.string x, .string y] 31))
  have hsz1 := b1.size
  clear b1 hxm hym hL hx hy
  go_wp2_with fail
  refine (impl_LoginFits_any _ ls x y _ L1.out.lo0 HX.out HY.out).mono ?_
  rintro e w2 ⟨rfl, b2⟩
  have K2 := Lib.hid (K1.out.kept b2)
  have L2 := Lib.hid (L1.out.below b2)
  have B2 := Lib.hid (B1.out.trans (b2.mono B1.out.size))
  have a0 : w2.cell? ⟨w1.heap.size, 0, none⟩ = some (.string x) := K2.out.cell 0
  have a1 : w2.cell? ⟨w1.heap.size, 1, none⟩ = some (.string y) := K2.out.cell 1
  obtain ⟨F, hF⟩ : ∃ F, fitsL ls x y = F := ⟨_, rfl⟩
  have HF := Lib.hid hF
  rw [hF]
  clear b2 K1 L1 B1 hF
  go_wp2_with fail
  refine (spec_LoginFits_any _ ls x y _ L2.out.lo0 HX.out HY.out).mono ?_
  rintro e w3 ⟨rfl, b3⟩
  rw [HF.out]
  have K3 := Lib.hid (K2.out.kept b3)
  have L3 := Lib.hid (L2.out.below b3)
  have B3 := Lib.hid (B2.out.trans (b3.mono B2.out.size))
  have c0 : w3.cell? ⟨w1.heap.size, 0, none⟩ = some (.string x) := K3.out.cell 0
  have c1 : w3.cell? ⟨w1.heap.size, 1, none⟩ = some (.string y) := K3.out.cell 1
  have hz3 : w1.heap.size < w3.heap.size := K3.out.lt
  clear b3 K2 L2 B2 a0 a1
  cases F
  · go_wp2_with fail
    go_ret
    exact ⟨rfl, B3.out⟩
  go_wp2_with fail
  obtain ⟨A2, c2, rfl, hc2, hm2, hA2⟩ := L3.out.open_
  obtain ⟨n, hn⟩ : ∃ n, ls.length = n := ⟨_, rfl⟩
  rw [hn] at hlen hc2 ⊢
  have L3d : Hid (Logins w3.drew 0 (.slice A2 n c2) ls) := Lib.hid (by rw [← hn]; exact L3.out.lo0.drewN 1)
  have L3z : Hid (Logins w3 0 (.slice A2 n c2) ls) := Lib.hid (by rw [← hn]; exact L3.out.lo0)
  have HN := Lib.hid hn
  have HM := Lib.hid (more_fit (⟨#[122, 101, 100]⟩, ⟨#[122]⟩) HF.out)
  clear hA2 hn
  have hB : Hid (Below w.heap.size w w3.drew) := Lib.hid B3.out.drew
  go_region_held3 (fun w' => w'.cell? ⟨w1.heap.size, 0, none⟩ = some (.string x) ∧ w'.cell? ⟨w1.heap.size, 1, none⟩ = some (.string y) ∧ w1.heap.size < w'.heap.size ∧ Below w.heap.size w w')
    (first | exact ⟨c0, c1, hz3, hB.out⟩ | exact two_below ‹_› b5 | exact two_below ‹_› b7 | exact two_alloc ‹_› _ | exact two_belowB ‹_› b4 hsz1)
    (first
      | (refine step_logins (by rfl) (.tmp 32) (.tmp 33) (by rfl) (by rfl) (by rfl) (base := w1.heap.size + 1) (v := .slice (some ⟨_, 0, none⟩) 1 1) (u := .slice A2 n c2) (zs := [(⟨#[122, 101, 100]⟩, ⟨#[122]⟩)]) (ys := ls) ?_ ?_ ?_ ?_ ?_; (with_reducible refine OwnP.drew ?_); (refine litP1 _ _ rfl ?_); (exact hz3); (repeat (first | (with_reducible exact L3d.out) | (with_reducible exact L3z.out) | (with_reducible refine Logins.alloc ?_ _) | (with_reducible refine Logins.drew ?_))); (rw [HN.out]; simp; omega); (show _ ≤ (World.alloc _ _).heap.size; rw [World.size_alloc]; omega); intro v4 w4 o4 b4 g4)
      | (go_at_call_of 32 v4; refine (impl_LoginFits_any _ ([(⟨#[122, 101, 100]⟩, ⟨#[122]⟩)] ++ ls) x y _ o4.logins.lo0 HX.out HY.out).mono ?_; rintro e w5 ⟨rfl, b5⟩; rw [HM.out])
      | (go_at_call 32; refine (impl_LoginFits_any _ [] x y _ (nilP ?_) HX.out HY.out).mono ?_; (with_reducible rfl); rintro e w7 ⟨rfl, b7⟩; rw [none_fit]))
  all_goals
    obtain ⟨_, _, _, hbw⟩ : w7.cell? ⟨w1.heap.size, 0, none⟩ = some (.string x) ∧ w7.cell? ⟨w1.heap.size, 1, none⟩ = some (.string y) ∧ w1.heap.size < w7.heap.size ∧ Below w.heap.size w w7 := by assumption
    go_wp2_with fail
    go_ret
    exact ⟨rfl, hbw⟩
set_option maxRecDepth 100000 in
theorem lifted (os : Os) (started : os.Started) (H : Type) (enc : TypeId × Value → H) :
    ReturnsInHanded {} Try.checked os 5 .any (Rows.fnLoginFitsMoreSpec.pre6 enc Try.prog Try.f5 Rows.fnLoginFitsMoreRow.domain false) (Rows.fnLoginFitsMoreSpec.post enc Try.prog Try.f5 false true false false) := by
  refine returnsInHanded_of_change (C := Try.checked) Try.own started (by kernel_rfl) Try.func5
    (ChangeSpec.witness6 (enc := enc) (C := Try.checked) false ⟨#[], #[.slice none 0 0], []⟩ 8 (by kernel_rfl) (by kernel_rfl) (by kernel_rfl) (by kernel_rfl)) ?_
  intro W base args ds gs before hval0 hW hcnd _
  have hval : ∀ (j : Nat) t v, Try.f5.params[j]? = some t → args[j]? = some v → Value.okWide Try.prog W .any base t v := hval0
  have hW' := hW
  obtain ⟨p, q, hA0, hV, rfl, hfz, hnd⟩ := hW
  have hA : DataW.TrodAll enc Try.prog W 0 (fun _ => true) true Try.f5.params.toList args.toList ds p := hA0
  rw [Try.params5] at hA hval
  obtain ⟨v0, vs0, d0, ds0, p0, q0, hargs, rfl, rfl, h0, r0⟩ := trodAll_cons hA
  obtain ⟨rfl, rfl, rfl⟩ := trodAll_nil r0
  obtain rfl : args = #[v0] := by cases args; simp_all
  obtain ⟨rfl, rfl⟩ := trodVars_none hV
  obtain ⟨a0, len0, cap0, rfl⟩ := okWide_slice Try.underlying27 (hval 0 27 v0 rfl rfl)
  have k0 := h0
  have lt0 : ∀ x ∈ p0, x.block < W.heap.size := by obtain ⟨m, hm⟩ := k0; exact DataW.trod_lt m _ _ _ hm
  obtain ⟨z0, w0⟩ : ∃ zs, IsRow .u8 W a0 len0 cap0 zs := by
    obtain ⟨fuel, hf⟩ := h0
    rcases open_ints Try.underlying27 Try.underlying5 (by kernel_rfl) hf with ⟨hcs, _⟩ | ⟨x, l, c, zs, hcs, _, hl, hm, hz, _, hcell, hwz⟩
    · simp [Value.cells] at hcs
      obtain ⟨rfl, rfl, rfl⟩ := hcs
      exact ⟨[], .inl ⟨rfl, rfl, rfl, rfl⟩⟩
    · simp [Value.cells] at hcs
      obtain ⟨rfl, rfl, rfl⟩ := hcs
      exact ⟨zs, .inr ⟨_, rfl, hl, hm, by simpa using hz, hcell, hwz⟩⟩
  clear hA0 hval0
  refine (walk (.slice a0 len0 cap0) _ W ((Came.of_row w0).1)).mono fun e W' ⟨he, bel⟩ => ?_
  subst he
  exact ⟨_, rfl, _, _, _, [], _, [], hW', trodAll_mk1 (shut_bool Try.underlying4 _), (trodAll_cons_mk (Below.trod Try.laidOut (by kernel_rfl) (of_decide_eq_true (by kernel_rfl)) k0 bel lt0) trodAll_mk0), rfl, bel.frame _, fun h => by cases h⟩

theorem closed : joinedFacts Try.prog 5 Try.f5 Rows.fnLoginFitsMoreSpec Rows.fnLoginFitsMoreRow = true := by
  unfold joinedFacts
  repeat' (with_reducible refine band ?_ ?_)
  all_goals (with_reducible (first | exact Try.laidOut | exact kMaps | exact kStops | exact kKnobs | exact kHeard | exact kEnter | refine eqPlain ?_ | refine eqLift ?_ | refine eqMake ?_ | skip))
  all_goals (as_aux_lemma => kernel_rfl)

/-- THE STATEMENT -/
theorem proved : Rows.FnLoginFitsMoreSaid :=
  OpenClaim.holds_of_wide 5 Try.f5 rfl rfl rfl rfl rfl rfl rfl ⟨rfl, rfl, rfl, rfl, rfl⟩ rfl rfl rfl rfl rfl (by as_aux_lemma => kernel_rfl) Try.func5 closed
    (of_decide_eq_true (by as_aux_lemma => kernel_rfl)) (by unfold Func.isWrapper; first | (rw [if_pos (by decide +kernel)]; kernel_rfl) | (rw [if_neg (by decide +kernel)]; exact ⟨rfl, rfl⟩))
    (fun os started H enc _ => lifted os started H enc)
end Go.Proofs.Yticlgmdmkomdbaa.fnLoginFitsMore

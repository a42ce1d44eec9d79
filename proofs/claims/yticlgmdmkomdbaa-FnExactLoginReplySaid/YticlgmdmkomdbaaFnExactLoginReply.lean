/-
  LoginReply of the program returns what the reference's returns, for both arguments, and in memory that it shares with nothing. Conditions: none.
-/
import Derived.Test.YticlgmdmkomdbaaKit
import Derived.Test.YticlgmdmkomdbaaSame
import Derived.Test.YticlgmdmkomdbaaMarks
import Derived.Test.YticlgmdmkomdbaaReply
namespace Go.Proofs.Yticlgmdmkomdbaa.fnExactLoginReply
open Go.ChangeShapes Go.WideShapes Go.ChangeAt Go.RowKit

set_option maxHeartbeats 1000000 in
theorem walk (f : Bool) (w : World) : Calls Try.prog 3 #[.bool f] w fun e w' => e = .returned (.bool true) ∧ Below w.heap.size w w' := by
  have hlen : (replyL f).length = 2 := by cases f <;> rfl
  have HL := Lib.hid hlen
  clear hlen
  go_enter Try.func3, Try.ntmps3
  go_wp2_with fail
  refine (spec_LoginReply_any _ _).mono ?_
  rintro e w1 ⟨v1, rfl, o1, b1⟩
  go_wp2_with fail
  refine (impl_LoginReply_any _ _).mono ?_
  rintro e w2 ⟨v2, rfl, o2, b2⟩
  go_wp2_with fail
  refine (eqIntS_any _ _ (replyL f) (replyL f) _ o2.ints.zero (o1.ints.zero.below b2)).mono ?_
  rintro e w3 ⟨rfl, n3, rfl⟩
  go_wp2_with fail
  refine (markIntS_any _ (replyL f) _ 1 _ (o2.ints.drewN n3) (by omega) (by omega) (by rw [HL.out]; omega)).mono ?_
  rintro e w4 ⟨rfl, i4, g4⟩
  have hz2 : w2.heap.size = (w2.drewN n3).heap.size := rfl
  have b14 : Below w1.heap.size w1 w4 := (below_drewN b2 n3).grown g4 (by have := b2.size; rw [← hz2]; exact this) fun k hk => (World.ownsRow.lt o2 k hk).1
  clear hz2
  go_wp2_with fail
  refine (heldIntS_any _ 1 (replyL f).length _ i4.zero (by omega) (by omega) (by rw [HL.out]; omega)).mono ?_
  rintro e w5 ⟨rfl, rfl⟩
  go_wp2_with fail
  refine (impl_LoginReply_any _ _).mono ?_
  rintro e w5 ⟨v5, rfl, o5, b5⟩
  have b15 : Below w1.heap.size w1 w5 := b14.trans (b5.mono b14.size)
  go_wp2_with fail
  refine (eqIntS_any _ _ (replyL f) (replyL f) _ o5.ints.zero (o1.ints.zero.below b15)).mono ?_
  rintro e w6 ⟨rfl, n6, rfl⟩
  go_wp2_with fail
  refine (heldIntS_any _ 1 (replyL f).length _ ((i4.zero.below b5).drewN n6) (by omega) (by omega) (by rw [HL.out]; omega)).mono ?_
  rintro e w7 ⟨rfl, rfl⟩
  go_wp2_with fail
  go_ret
  exact ⟨rfl, below_drewN (b1.trans (b15.mono b1.size)) n6⟩
set_option maxRecDepth 100000 in
theorem lifted (os : Os) (started : os.Started) (H : Type) (enc : TypeId × Value → H) :
    ReturnsInHanded {} Try.checked os 3 .any (Rows.fnExactLoginReplySpec.pre6 enc Try.prog Try.f3 Rows.fnExactLoginReplyRow.domain false) (Rows.fnExactLoginReplySpec.post enc Try.prog Try.f3 false true false false) := by
  refine returnsInHanded_of_change (C := Try.checked) Try.own started (by kernel_rfl) Try.func3
    (ChangeSpec.witness6 (enc := enc) (C := Try.checked) false ⟨#[], #[.bool false], []⟩ 8 (by kernel_rfl) (by kernel_rfl) (by kernel_rfl) (by kernel_rfl)) ?_
  intro W base args ds gs before hval0 hW hcnd _
  have hval : ∀ (j : Nat) t v, Try.f3.params[j]? = some t → args[j]? = some v → Value.okWide Try.prog W .any base t v := hval0
  have hW' := hW
  obtain ⟨p, q, hA0, hV, rfl, hfz, hnd⟩ := hW
  have hA : DataW.TrodAll enc Try.prog W 0 (fun _ => true) true Try.f3.params.toList args.toList ds p := hA0
  rw [Try.params3] at hA hval
  obtain ⟨v0, vs0, d0, ds0, p0, q0, hargs, rfl, rfl, h0, r0⟩ := trodAll_cons hA
  obtain ⟨rfl, rfl, rfl⟩ := trodAll_nil r0
  obtain rfl : args = #[v0] := by cases args; simp_all
  obtain ⟨rfl, rfl⟩ := trodVars_none hV
  obtain ⟨a0, rfl, rfl, rfl⟩ := open_bool Try.underlying4 (hval 0 4 v0 rfl rfl) h0
  clear hA0 hval0
  refine (walk a0 W).mono fun e W' ⟨he, bel⟩ => ?_
  subst he
  exact ⟨_, rfl, _, _, _, [], _, [], hW', trodAll_mk1 (shut_bool Try.underlying4 _), (trodAll_cons_mk (shut_bool Try.underlying4 _) trodAll_mk0), rfl, bel.frame _, fun h => by cases h⟩

theorem closed : joinedFacts Try.prog 3 Try.f3 Rows.fnExactLoginReplySpec Rows.fnExactLoginReplyRow = true := by
  unfold joinedFacts
  repeat' (with_reducible refine band ?_ ?_)
  all_goals (with_reducible (first | exact Try.laidOut | exact kMaps | exact kStops | exact kKnobs | exact kHeard | exact kEnter | refine eqPlain ?_ | refine eqLift ?_ | refine eqMake ?_ | skip))
  all_goals (as_aux_lemma => kernel_rfl)

/-- THE STATEMENT -/
theorem proved : Rows.FnExactLoginReplySaid :=
  OpenClaim.holds_of_wide 3 Try.f3 rfl rfl rfl rfl rfl rfl rfl ⟨rfl, rfl, rfl, rfl, rfl⟩ rfl rfl rfl rfl rfl (by as_aux_lemma => kernel_rfl) Try.func3 closed
    (of_decide_eq_true (by as_aux_lemma => kernel_rfl)) (by unfold Func.isWrapper; first | (rw [if_pos (by decide +kernel)]; kernel_rfl) | (rw [if_neg (by decide +kernel)]; exact ⟨rfl, rfl⟩))
    (fun os started H enc _ => lifted os started H enc)
end Go.Proofs.Yticlgmdmkomdbaa.fnExactLoginReply

/-
  The answers: AnswerText and AnswerFrom of both sides. Conditions: the table of answers and the table of powers of ten read as they were laid.
-/
import Derived.Test.YtjnnmihbkieblaaDoorAnsT
import Derived.Test.YtjnnmihbkieblaaDoorBeg
import Derived.Test.YtjnnmihbkieblaaDoorTab
import Derived.Test.YtjnnmihbkieblaaDoorDrawAd
import Derived.Lib.QuietBelow
import Derived.BigQuiet
namespace Go.Proofs.YtjnnmihbkieblaaDoor
open Go.RowKit Go.Sort

/-- The table of answers reads as it was laid. -/
def Ans (w : World) : Prop := ∃ b o c, b < w.heap.size ∧ 0 < w.heap.size ∧ 4 ≤ c ∧ c ≤ 9223372036854775807 ∧ w.cell? ⟨0, 0, none⟩ = some (.slice (some ⟨b, o, none⟩) 4 c) ∧
  ∀ j q, ansL[j]? = some q → w.cell? ⟨b, o + j * 2, none⟩ = some (.int .i64 q.1) ∧ w.cell? ⟨b, o + j * 2 + 1, none⟩ = some (.string q.2)
theorem Ans.below {w w' : World} (h : Ans w) (hb : Below w.heap.size w w') : Ans w' := by
  obtain ⟨b, o, c, h1, h2, h3, h4, h5, h6⟩ := h
  have hz := hb.size
  refine ⟨b, o, c, by omega, by omega, h3, h4, (hb.cell (p := ⟨_, 0, none⟩) h2).trans h5, fun j q hq => ?_⟩
  obtain ⟨h7, h8⟩ := h6 j q hq
  exact ⟨(hb.cell (p := ⟨b, o + j * 2, none⟩) h1).trans h7, (hb.cell (p := ⟨b, o + j * 2 + 1, none⟩) h1).trans h8⟩
theorem Ans.alloc {w : World} (h : Ans w) (x : Obj) : Ans (w.alloc x) := h.below ((Below.refl _ _).alloc (Nat.le_refl _) x)

set_option maxRecDepth 100000 in
set_option maxHeartbeats 2000000 in
theorem impl_AnswerText_any (c : Int) (w : World) (hA : Ans w) (ht : Tabs w) : Calls Tryd.prog 5 #[.int .i64 c] w fun e w' => e = .returned (.string (ansT c)) ∧ Below w.heap.size w w' := by
  have HT := Lib.hid ht
  obtain ⟨b, o, cc, hb, hg, h4, hm, hs, hc⟩ := hA
  have HC := Lib.hid hc
  clear ht hc
  go_enter Tryd.func5, Tryd.ntmps5
  go_wp2_with fail
  go_loopw [7] (fun i wr => ∃ k : Nat, k ≤ 4 ∧ i = .int .i64 k ∧ Hid (Below w.heap.size w wr) ∧ Hid (∀ j, j < k → ansN j ≠ c)) (fun i _ => 4 - (intOf i).toNat)
  case atStart => exact ⟨0, by omega, rfl, Lib.hid (Below.refl _ _), Lib.hid (fun j h => by omega)⟩
  case round =>
    obtain ⟨k, hk, rfl, HB, HK⟩ := hrel
    by_cases hlt : k < 4
    · have hki : (k : Int) < 4 := by omega
      obtain ⟨n, wd, hq, hN, hn, hwd, hne, hT⟩ := ans_at k hlt
      obtain ⟨c0, c1⟩ := HC.out k _ hq
      have d0 : wr.cell? ⟨b, o + k * 2, none⟩ = some (.int .i64 n) := (HB.out.cell (p := ⟨b, o + k * 2, none⟩) hb).trans c0
      have d1 : wr.cell? ⟨b, o + k * 2 + 1, none⟩ = some (.string wd) := (HB.out.cell (p := ⟨b, o + k * 2 + 1, none⟩) hb).trans c1
      have HNK := Lib.hid hN
      clear c0 c1 hq hN hne
      obtain ⟨V, hV⟩ : ∃ V, wr.alloc (.cells #[.int .i64 n, .string wd] 40) = V := ⟨_, rfl⟩
      have BV : Hid (Below w.heap.size w V) := Lib.hid (by rw [← hV]; exact HB.out.alloc HB.out.size _)
      have a1 : V.cell? ⟨wr.heap.size, 1, none⟩ = some (.string wd) := by rw [← hV]; exact (Blk.new _ _ _).cell 1
      have a0 : V.cell? ⟨wr.heap.size, 0, none⟩ = some (.int .i64 n) := by rw [← hV]; exact (Blk.new _ _ _).cell 0
      by_cases he : (n : Int) = c
      · subst he
        have E : Hid (ansT (n : Int) = ansB ++ decB n ++ blankB ++ wd ++ endsB) := Lib.hid hT
        obtain ⟨D, hD⟩ : ∃ D, decB n = D := ⟨_, rfl⟩
        have hDz : D.size ≤ 20 := by rw [← hD]; exact decB_size_le (by omega)
        obtain ⟨z0, hz0⟩ : ∃ z, D.size = z := ⟨_, rfl⟩
        obtain ⟨z1, hz1⟩ : ∃ z, wd.size = z := ⟨_, rfl⟩
        rw [hz0] at hDz
        rw [hz1] at hwd
        have n0 : (9223372036854775807 < 9 + z0) = False := eq_false (by omega)
        have n1 : (9223372036854775807 < 9 + z0 + 1) = False := eq_false (by omega)
        have n2 : (9223372036854775807 < 9 + z0 + 1 + z1) = False := eq_false (by omega)
        have n3 : (9223372036854775807 < 9 + z0 + 1 + z1 + 4) = False := eq_false (by omega)
        have Q0 : Hid (∀ d os, Calls Tryd.prog 13 #[.int .i64 (n : Int)] (grow (redrawn V d) os) fun e w'' => e = .returned (.string D) ∧ ∃ p : Regrown, w'' = grow (redrawn V p.d) p.os) := Lib.hid fun d os => Calls.regrown_of (by rw [← hD]; exact itoa_any n _ (by omega) (HT.out.below (BV.out.trans ((below_regrown V d os).mono BV.out.size))))
        have ED : Hid (ansT (n : Int) = ansB ++ D ++ blankB ++ wd ++ endsB) := Lib.hid (by rw [← hD]; exact E.out)
        have k1 := cell_regrown a1
        clear E hT hD hwd hDz
        go_wp2_with fail
        clear hV a0 a1
        refine wp_region_quiet_below (by kernel_rfl) (by kernel_rfl) ?_
        repeat (quiet_step (with_reducible exact Q0.out _ _))
        refine wpQuiet_nil ?_
        intro _ hw'
        obtain ⟨⟨dq, osq⟩, hw''⟩ := hw'
        subst hw''
        go_wp2_with fail
        go_ret
        exact ⟨by rw [ED.out]; rfl, BV.out.trans ((below_regrown V dq osq).mono BV.out.size)⟩
      · have he' : ((n : Int) == c) = false := by simpa using he
        have HE := Lib.hid he
        clear hT hwd he
        go_wp2_with fail
        clear hV a0 a1
        go_roundw
        case rel => exact ⟨k + 1, by omega, by go_num, BV, Lib.hid fun j hj => by
          by_cases e : j = k
          · subst e; rw [HNK.out]; exact HE.out
          · exact HK.out j (by omega)⟩
        case measure => simp [intOf]; omega
    · have hki : ¬ (k : Int) < 4 := by omega
      have e4 : k = 4 := by omega
      subst e4
      have E := Lib.hid (ansN_none HK.out)
      go_wp2_with fail
      go_ret
      exact ⟨by rw [E.out]; rfl, HB.out⟩

/-- The word of a code, or none. -/
def ansW (c : Int) : ByteArray := if c = 200 then ⟨#[111, 107]⟩ else if c = 403 then ⟨#[110, 111]⟩ else if c = 407 then ⟨#[119, 104, 111]⟩ else if c = 502 then ⟨#[103, 111, 110, 101]⟩ else ⟨#[]⟩
theorem ansW_none {c : Int} (h : c ≠ 200 ∧ c ≠ 403 ∧ c ≠ 407 ∧ c ≠ 502) : ansW c = ⟨#[]⟩ := by
  obtain ⟨h1, h2, h3, h4⟩ := h
  simp [ansW, h1, h2, h3, h4]
set_option maxRecDepth 100000 in
theorem l14Reason_any (c : Int) (w : World) : Calls Tryd.prog 14 #[.int .i64 c] w fun e w' => e = .returned (.string (ansW c)) ∧ w' = w := by
  rcases ans_cases c with rfl | rfl | rfl | rfl | h
  · go_enter Tryd.func14, Tryd.ntmps14
    go_wp2
    go_ret
    exact ⟨rfl, rfl⟩
  · go_enter Tryd.func14, Tryd.ntmps14
    go_wp2
    go_ret
    exact ⟨rfl, rfl⟩
  · go_enter Tryd.func14, Tryd.ntmps14
    go_wp2
    go_ret
    exact ⟨rfl, rfl⟩
  · go_enter Tryd.func14, Tryd.ntmps14
    go_wp2
    go_ret
    exact ⟨rfl, rfl⟩
  · have E := Lib.hid (ansW_none h)
    obtain ⟨h1, h2, h3, h4⟩ := h
    have e1 : (c == 200) = false := by simpa using h1
    have e2 : (c == 403) = false := by simpa using h2
    have e3 : (c == 407) = false := by simpa using h3
    have e4 : (c == 502) = false := by simpa using h4
    clear h1 h2 h3 h4
    go_enter Tryd.func14, Tryd.ntmps14
    go_wp2
    go_ret
    exact ⟨by rw [E.out]; rfl, rfl⟩

/-- A code with an answer, as a number, with its word. -/
theorem ans_some {c : Int} (h : c = 200 ∨ c = 403 ∨ c = 407 ∨ c = 502) : ∃ n : Nat, c = (n : Int) ∧ n ≤ 999 ∧ (ansW c).size ≤ 4 ∧ (ansW c).toList.isEmpty = false ∧ ansT c = ansB ++ decB n ++ blankB ++ ansW c ++ endsB := by
  rcases h with rfl | rfl | rfl | rfl
  · exact ⟨200, rfl, by omega, by decide, not_none (by decide), by rw [dec200]; rfl⟩
  · exact ⟨403, rfl, by omega, by decide, not_none (by decide), by rw [dec403]; rfl⟩
  · exact ⟨407, rfl, by omega, by decide, not_none (by decide), by rw [dec407]; rfl⟩
  · exact ⟨502, rfl, by omega, by decide, not_none (by decide), by rw [dec502]; rfl⟩
set_option maxRecDepth 100000 in
set_option maxHeartbeats 2000000 in
theorem spec_AnswerText_any (c : Int) (w : World) : Calls Tryd.prog 6 #[.int .i64 c] w fun e w' => e = .returned (.string (ansT c)) ∧ Below w.heap.size w w' := by
  by_cases h : c = 200 ∨ c = 403 ∨ c = 407 ∨ c = 502
  · obtain ⟨n, rfl, hn, hwd, hne, hT⟩ := ans_some h
    obtain ⟨wd, hw⟩ : ∃ wd, ansW (n : Int) = wd := ⟨_, rfl⟩
    obtain ⟨D, hD⟩ : ∃ D, decB n = D := ⟨_, rfl⟩
    have QW : Hid (∀ W, Calls Tryd.prog 14 #[.int .i64 (n : Int)] W fun e w' => e = .returned (.string wd) ∧ w' = W) := Lib.hid fun W => by rw [← hw]; exact l14Reason_any _ W
    have QD : Hid (∀ W : World, Calls Tryd.prog 15 #[.int .i64 (n : Int)] W fun e w' => e = .returned (.string D) ∧ Below W.heap.size W w') := Lib.hid fun W => by rw [← hD]; exact l6Dec_any n W (by omega)
    rw [hw, hD] at hT
    rw [hw] at hwd hne
    have E := Lib.hid hT
    have hDz : D.size ≤ 20 := by rw [← hD]; exact decB_size_le (by omega)
    obtain ⟨z0, hz0⟩ : ∃ z, D.size = z := ⟨_, rfl⟩
    obtain ⟨z1, hz1⟩ : ∃ z, wd.size = z := ⟨_, rfl⟩
    rw [hz0] at hDz
    rw [hz1] at hwd
    have n0 : (9223372036854775807 < 9 + z0) = False := eq_false (by omega)
    have n1 : (9223372036854775807 < 9 + z0 + 1) = False := eq_false (by omega)
    have n2 : (9223372036854775807 < 9 + z0 + 1 + z1) = False := eq_false (by omega)
    have n3 : (9223372036854775807 < 9 + z0 + 1 + z1 + 4) = False := eq_false (by omega)
    clear h hw hD hT hDz hwd
    go_enter Tryd.func6, Tryd.ntmps6
    go_wp2_with fail
    refine (QW.out _).mono ?_
    rintro e w1 ⟨rfl, rfl⟩
    go_wp2_with fail
    refine (QD.out _).mono ?_
    rintro e w2 ⟨rfl, b2⟩
    have B2 := Lib.hid b2
    clear b2
    go_wp2_with fail
    refine (QW.out _).mono ?_
    rintro e w3 ⟨rfl, rfl⟩
    go_wp2_with fail
    go_ret
    exact ⟨by rw [E.out]; rfl, B2.out⟩
  · have h' : c ≠ 200 ∧ c ≠ 403 ∧ c ≠ 407 ∧ c ≠ 502 := by omega
    have E := Lib.hid (ansT_none h')
    have QW : Hid (∀ W, Calls Tryd.prog 14 #[.int .i64 c] W fun e w' => e = .returned (.string ⟨#[]⟩) ∧ w' = W) := Lib.hid fun W => by rw [← ansW_none h']; exact l14Reason_any _ W
    clear h h'
    go_enter Tryd.func6, Tryd.ntmps6
    go_wp2_with fail
    refine (QW.out _).mono ?_
    rintro e w1 ⟨rfl, rfl⟩
    go_wp2_with fail
    go_ret
    exact ⟨by rw [E.out]; rfl, Below.refl _ _⟩
end Go.Proofs.YtjnnmihbkieblaaDoor

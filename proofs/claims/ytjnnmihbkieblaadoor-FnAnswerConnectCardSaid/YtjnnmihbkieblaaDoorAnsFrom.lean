/-
  AnswerFrom of both sides: which answer a text begins with. Conditions: the table of answers and the table of powers of ten read as they were laid.
-/
import Derived.Test.YtjnnmihbkieblaaDoorAns
namespace Go.Proofs.YtjnnmihbkieblaaDoor
open Go.RowKit Go.Sort

set_option maxRecDepth 100000 in
set_option maxHeartbeats 2000000 in
theorem AnswerFrom1_any (s : ByteArray) (c : Int) (wd : ByteArray) (B : Nat) (w : World) (hB : w.cell? ⟨B, 0, none⟩ = some (.string s)) (hb : B < w.heap.size) (hA : Ans w) (ht : Tabs w) :
    Calls Tryd.prog 23 #[.agg #[.int .i64 c, .string wd], .pointer (some ⟨B, 0, none⟩)] w fun e w' => e = .returned (.bool (beg s (ansT c))) ∧ Below w.heap.size w w' := by
  obtain ⟨V, hV⟩ : ∃ V, w.alloc (.cells #[.int .i64 c, .string wd] 40) = V := ⟨_, rfl⟩
  have BV : Hid (Below w.heap.size w V) := Lib.hid (by rw [← hV]; exact (Below.refl _ _).alloc (Nat.le_refl _) _)
  have a0 : V.cell? ⟨w.heap.size, 0, none⟩ = some (.int .i64 c) := by rw [← hV]; exact (Blk.new _ _ _).cell 0
  have a1 : V.cell? ⟨B, 0, none⟩ = some (.string s) := (BV.out.cell (p := ⟨B, 0, none⟩) hb).trans hB
  have k0 := cell_regrown a0
  have k1 := cell_regrown a1
  have AV : Hid (Ans V) := Lib.hid (hA.below BV.out)
  have TV : Hid (Tabs V) := Lib.hid (ht.below BV.out)
  have Q0 : Hid (∀ d os, Calls Tryd.prog 5 #[.int .i64 c] (grow (redrawn V d) os) fun e w'' => e = .returned (.string (ansT c)) ∧ ∃ p : Regrown, w'' = grow (redrawn V p.d) p.os) := Lib.hid fun d os => Calls.regrown_of (impl_AnswerText_any c _ (AV.out.below (below_regrown V d os)) (TV.out.below (below_regrown V d os)))
  obtain ⟨T, hT⟩ : ∃ T, ansT c = T := ⟨_, rfl⟩
  rw [hT] at Q0 ⊢
  have Q1 : Hid (∀ d os, Calls Tryd.prog 18 #[.string s, .string T] (grow (redrawn V d) os) fun e w'' => e = .returned (.bool (beg s T)) ∧ ∃ p : Regrown, w'' = grow (redrawn V p.d) p.os) := Lib.hid fun d os => Calls.regrown_of ((HasPrefix_any s T _).mono fun e w' ⟨h1, h2⟩ => ⟨h1, by rw [h2]; exact Below.refl _ _⟩)
  obtain ⟨r, hr⟩ : ∃ r, beg s T = r := ⟨_, rfl⟩
  rw [hr] at Q1 ⊢
  clear hA ht hT hr hB
  go_enter Tryd.func23, Tryd.ntmps23
  go_wp2_with fail
  clear hV a0 a1
  refine wp_region_quiet_below (by kernel_rfl) (by kernel_rfl) ?_
  repeat (quiet_step (first | with_reducible exact Q0.out _ _ | with_reducible exact Q1.out _ _))
  refine wpQuiet_nil ?_
  intro _ hw'
  obtain ⟨⟨dq, osq⟩, hw''⟩ := hw'
  subst hw''
  go_wp2_with fail
  go_ret
  exact ⟨rfl, BV.out.trans ((below_regrown V dq osq).mono BV.out.size)⟩

set_option maxRecDepth 100000 in
set_option maxHeartbeats 2000000 in
theorem indexAns_any (s : ByteArray) (b o c B : Nat) (w : World) (hB : w.cell? ⟨B, 0, none⟩ = some (.string s)) (hBl : B < w.heap.size) (hA : Ans w) (ht : Tabs w) (hb : b < w.heap.size)
    (hc : ∀ j q, ansL[j]? = some q → w.cell? ⟨b, o + j * 2, none⟩ = some (.int .i64 q.1) ∧ w.cell? ⟨b, o + j * 2 + 1, none⟩ = some (.string q.2)) :
    Calls Tryd.prog 22 #[.slice (some ⟨b, o, none⟩) 4 c, .func (.func 23) #[] #[.pointer (some ⟨B, 0, none⟩)]] w fun e w' => e = .returned (.int .i64 (ansI s)) ∧ Below w.heap.size w w' := by
  have HC := Lib.hid hc
  have HB := Lib.hid hB
  have HA := Lib.hid hA
  have HT := Lib.hid ht
  clear hc hB hA ht
  go_enter Tryd.func22, Tryd.ntmps22
  go_wp2_with fail
  go_loopw [5, 8] (fun _ i wr => ∃ k : Nat, k ≤ 4 ∧ i = .int .i64 k ∧ Hid (Below w.heap.size w wr) ∧ Hid (∀ j, j < k → beg s (ansT (ansN j)) = false)) (fun _ i _ => 4 - (intOf i).toNat)
  case atStart => exact ⟨0, by omega, rfl, Lib.hid (Below.refl _ _), Lib.hid (fun j h => by omega)⟩
  case round =>
    obtain ⟨k, hk, rfl, BW, HK⟩ := hrel
    by_cases hlt : k < 4
    · have hki : (k : Int) < 4 := by omega
      obtain ⟨n, wd, hq, hN, hn, hwd, hne, hT⟩ := ans_at k hlt
      obtain ⟨c0, c1⟩ := HC.out k _ hq
      have d0 : wr.cell? ⟨b, o + k * 2, none⟩ = some (.int .i64 n) := (BW.out.cell (p := ⟨b, o + k * 2, none⟩) hb).trans c0
      have d1 : wr.cell? ⟨b, o + k * 2 + 1, none⟩ = some (.string wd) := (BW.out.cell (p := ⟨b, o + k * 2 + 1, none⟩) hb).trans c1
      have HNK := Lib.hid hN
      have Q0 : Hid (Calls Tryd.prog 23 #[.agg #[.int .i64 (n : Int), .string wd], .pointer (some ⟨B, 0, none⟩)] wr fun e w' => e = .returned (.bool (beg s (ansT (n : Int)))) ∧ Below wr.heap.size wr w') := Lib.hid (AnswerFrom1_any s n wd B wr ((BW.out.cell (p := ⟨B, 0, none⟩) hBl).trans HB.out) (Nat.lt_of_lt_of_le hBl BW.out.size) (HA.out.below BW.out) (HT.out.below BW.out))
      obtain ⟨r, hr⟩ : ∃ r, beg s (ansT (n : Int)) = r := ⟨_, rfl⟩
      have HR : Hid (beg s (ansT (ansN k)) = r) := Lib.hid (by rw [hN]; exact hr)
      rw [hr] at Q0
      clear c0 c1 hq hN hne hn hwd hT hr
      cases r
      · go_wp2_with (go_at_call 23; refine Q0.out.mono ?_; rintro e w2 ⟨rfl, b2⟩)
        go_roundw
        case rel => exact ⟨k + 1, by omega, by go_num, Lib.hid (BW.out.trans (b2.mono BW.out.size)), Lib.hid fun j hj => by
          by_cases e : j = k
          · subst e; exact HR.out
          · exact HK.out j (by omega)⟩
        case measure => simp [intOf]; omega
      · have E := Lib.hid (ans_hit hlt HK.out HR.out).1
        go_wp2_with (go_at_call 23; refine Q0.out.mono ?_; rintro e w2 ⟨rfl, b2⟩)
        go_ret
        exact ⟨by rw [E.out]; rfl, BW.out.trans (b2.mono BW.out.size)⟩
    · have hki : ¬ (k : Int) < 4 := by omega
      have e4 : k = 4 := by omega
      subst e4
      have E := Lib.hid (ans_miss HK.out).1
      go_wp2_with fail
      go_ret
      exact ⟨by rw [E.out]; rfl, BW.out⟩

set_option maxRecDepth 100000 in
set_option maxHeartbeats 2000000 in
theorem impl_AnswerFrom_any (s : ByteArray) (w : World) (hA : Ans w) (ht : Tabs w) : Calls Tryd.prog 9 #[.string s] w fun e w' => e = .returned (.tuple #[.int .i64 (ansC s), .int .i64 (ansU s), .bool (ansO s)]) ∧ Below w.heap.size w w' := by
  obtain ⟨V, hV⟩ : ∃ V, w.alloc (.cells #[.string s] 9) = V := ⟨_, rfl⟩
  have BV : Hid (Below w.heap.size w V) := Lib.hid (by rw [← hV]; exact (Below.refl _ _).alloc (Nat.le_refl _) _)
  have KV : Hid (Blk V w.heap.size 9 #[.string s]) := Lib.hid (by rw [← hV]; exact Blk.new _ _ _)
  have AV := Lib.hid (hA.below BV.out)
  have TV := Lib.hid (ht.below BV.out)
  obtain ⟨b, o, c, hb, hg, h4, hm, hs, hc⟩ := AV.out
  have a0 : V.cell? ⟨0, 0, none⟩ = some (.slice (some ⟨b, o, none⟩) 4 c) := hs
  have hzV : w.heap.size < V.heap.size := by rw [← hV]; simp
  have Q := Lib.hid (indexAns_any s b o c w.heap.size V (KV.out.cell 0) hzV AV.out TV.out hb hc)
  have HC := Lib.hid hc
  have HS := Lib.hid hs
  clear hA ht hs hc
  go_enter Tryd.func9, Tryd.ntmps9
  go_wp2_with fail
  clear hV
  refine Q.out.mono ?_
  rintro e w1 ⟨rfl, b1⟩
  have B1 := Lib.hid (BV.out.trans (b1.mono BV.out.size))
  have A1 := Lib.hid (AV.out.below b1)
  have T1 := Lib.hid (TV.out.below b1)
  rcases ans_either s with ⟨k, hk, i1, i2, i3, i4, _⟩ | ⟨i1, i2, i3, i4⟩
  · obtain ⟨n, wd, hq, hN, hn, hwd, hne, hT⟩ := ans_at k hk
    obtain ⟨c0, _⟩ := HC.out k _ hq
    have d0 : w1.cell? ⟨b, o + k * 2, none⟩ = some (.int .i64 n) := (b1.cell (p := ⟨b, o + k * 2, none⟩) hb).trans c0
    have d1 : w1.cell? ⟨0, 0, none⟩ = some (.slice (some ⟨b, o, none⟩) 4 c) := (b1.cell (p := ⟨_, 0, none⟩) hg).trans HS.out
    rw [hN] at i2 i3
    have hki : (k : Int) < 4 := by omega
    have k0 := cell_regrown d0
    have k1 := cell_regrown d1
    have Q0 : Hid (∀ d os, Calls Tryd.prog 5 #[.int .i64 (n : Int)] (grow (redrawn w1 d) os) fun e w'' => e = .returned (.string (ansT (n : Int))) ∧ ∃ p : Regrown, w'' = grow (redrawn w1 p.d) p.os) := Lib.hid fun d os => Calls.regrown_of (impl_AnswerText_any _ _ (A1.out.below (below_regrown w1 d os)) (T1.out.below (below_regrown w1 d os)))
    obtain ⟨T, hTT⟩ : ∃ T, ansT (n : Int) = T := ⟨_, rfl⟩
    rw [hTT] at Q0 i3
    have E : Hid (ansC s = n ∧ ansU s = (T.size : Nat) ∧ ansO s = true) := Lib.hid ⟨i2, i3, i4⟩
    rw [i1]
    clear a0 b1 hq hN hn hwd hne hT hTT c0 i1 i2 i3 i4
    go_wp2_with fail
    clear d0 d1
    refine wp_region_quiet_below (by kernel_rfl) (by kernel_rfl) ?_
    repeat (quiet_step (with_reducible exact Q0.out _ _))
    refine wpQuiet_nil ?_
    intro _ hw'
    obtain ⟨⟨dq, osq⟩, hw''⟩ := hw'
    subst hw''
    go_wp2_with fail
    go_ret3
    exact ⟨by rw [E.out.1, E.out.2.1, E.out.2.2]; rfl, B1.out.trans ((below_regrown w1 dq osq).mono B1.out.size)⟩
  · have E : Hid (ansC s = 0 ∧ ansU s = 0 ∧ ansO s = false) := Lib.hid ⟨i2, i3, i4⟩
    rw [i1]
    clear a0 b1 i1 i2 i3 i4
    go_wp2_with fail
    go_ret3
    exact ⟨by rw [E.out.1, E.out.2.1, E.out.2.2]; rfl, B1.out⟩

end Go.Proofs.YtjnnmihbkieblaaDoor

/-
  The reference's HelloFrom returns the same plain function of the bytes as the program's. Conditions: the slice reads as a list of integers.
-/
import Derived.Test.YticlgmdmkomdbaaHelloFrom
namespace Go.Proofs.Yticlgmdmkomdbaa
open Go.RowKit

set_option maxHeartbeats 1000000 in
theorem spec_HelloFrom_any (v : Value) (zs : List Int) (w : World) (hv : Ints w 0 v zs) :
    Calls Try.prog 50 #[v] w fun e w' => ReadL w (hfR zs) (hfC zs) (hfOk zs) e w' := by
  have HV := Lib.hid hv
  obtain ⟨A, c, rfl, hc, hm, hA⟩ := hv.open_
  clear hv
  by_cases h1 : validL zs = true
  case neg =>
    have h1 : validL zs = false := by simpa using h1
    have E : Hid (hfOk zs = false) := Lib.hid (by simp [hfOk, pfOk, h1])
    go_enter Try.func50, Try.ntmps50
    go_wp2_with (go_at_call 82; refine (spec_BytesValid_any _ zs _ HV.out).mono ?_; rintro e w' ⟨rfl, rfl⟩)
    go_ret3
    exact ⟨_, by rw [(hf_not E.out).2, E.out]; first | done | rfl, by rw [(hf_not E.out).1]; exact Own.lit w [] _ (Nat.le_refl _) (by simp), (Below.refl _ _).alloc (Nat.le_refl _) _⟩
  by_cases h2 : zs.length < 3
  · have E : Hid (hfOk zs = false) := Lib.hid (by
      cases hk : hfOk zs
      · rfl
      · have := hfOk_three hk
        omega)
    have h2' : (zs.length : Int) < 3 := by omega
    clear h2
    go_enter Try.func50, Try.ntmps50
    go_wp2_with (go_at_call 82; refine (spec_BytesValid_any _ zs _ HV.out).mono ?_; rintro e w' ⟨rfl, rfl⟩)
    go_ret3
    exact ⟨_, by rw [(hf_not E.out).2, E.out]; first | done | rfl, by rw [(hf_not E.out).1]; exact Own.lit w [] _ (Nat.le_refl _) (by simp), (Below.refl _ _).alloc (Nat.le_refl _) _⟩
  obtain ⟨b, o, rfl, _, hb, hs⟩ := hA.resolve_left (fun h => by rw [h] at h2; simp at h2)
  have c0 := hs.int_at (j := 0) (by omega)
  have c1 := hs.int_at (j := 1) (by omega)
  have h2' : (3 : Int) ≤ (zs.length : Int) := by omega
  rw [Nat.add_zero] at c0
  obtain ⟨x, hx⟩ : ∃ x, zs.getD 0 0 = x := ⟨_, rfl⟩
  have hyr := bytes_of_valid h1 (zs.getD 1 0) (by simp [List.getD, (by omega : 1 < zs.length)])
  obtain ⟨n, hy⟩ : ∃ n : Nat, zs.getD 1 0 = (n : Int) := ⟨_, (Int.toNat_of_nonneg hyr.1).symm⟩
  rw [hx] at c0
  rw [hy] at c1 hyr
  by_cases h3 : x = 5
  case neg =>
    have E : Hid (hfOk zs = false) := Lib.hid (by rw [hfOk, pfOk, hx, decide_eq_false h3, Bool.and_false]; rfl)
    have h3' : (x != 5) = true := by simpa using h3
    clear hs hx hy h2 h3
    go_enter Try.func50, Try.ntmps50
    go_wp2_with (go_at_call 82; refine (spec_BytesValid_any _ zs _ HV.out).mono ?_; rintro e w' ⟨rfl, rfl⟩)
    go_ret3
    exact ⟨_, by rw [(hf_not E.out).2, E.out]; first | done | rfl, by rw [(hf_not E.out).1]; exact Own.lit w [] _ (Nat.le_refl _) (by simp), (Below.refl _ _).alloc (Nat.le_refl _) _⟩
  subst h3
  have hn255 : (n : Int) ≤ 255 := hyr.2
  by_cases h4 : zs.length < 2 + n
  · have E : Hid (hfOk zs = false) := Lib.hid (by
      have h4' : ¬ 2 + n ≤ zs.length := by omega
      rw [hfOk, hy, Int.toNat_natCast, decide_eq_false h4', Bool.and_false]
      rfl)
    have h4' : (zs.length : Int) - 2 < (n : Int) := by omega
    clear hs hx hy h2 h4
    go_enter Try.func50, Try.ntmps50
    go_wp2_with (go_at_call 82; refine (spec_BytesValid_any _ zs _ HV.out).mono ?_; rintro e w' ⟨rfl, rfl⟩)
    go_ret3
    exact ⟨_, by rw [(hf_not E.out).2, E.out]; first | done | rfl, by rw [(hf_not E.out).1]; exact Own.lit w [] _ (Nat.le_refl _) (by simp), (Below.refl _ _).alloc (Nat.le_refl _) _⟩
  have hpf : pfOk zs = true := by
    have h2'' : 2 ≤ zs.length := by omega
    rw [pfOk, h1, hx]
    simp [h2'']
  have hL : hfL zs = (zs.drop 2).take n := by rw [hfL, hy, Int.toNat_natCast]
  have hok : hfOk zs = methodsOk ((zs.drop 2).take n) := by
    have h4' : 2 + n ≤ zs.length := by omega
    rw [hfOk, hpf, hL, hy, Int.toNat_natCast, decide_eq_true h4']
    rfl
  have h4' : (n : Int) ≤ (zs.length : Int) - 2 := by omega
  have hlen : ((zs.drop 2).take n).length = n := by simp; omega
  have HP : Hid (Ints (w.alloc (.cells #[] 3)) 0 (.slice (some ⟨b, o + 2, none⟩) (2 + n - 2) (c - 2)) ((zs.drop 2).take n)) := Lib.hid (by rw [Nat.add_sub_cancel_left]; exact (Ints.part (i := 2) (m := n) hs (by omega) (by omega) (by omega)).alloc _)
  have EY := Lib.hid hy
  have EL := Lib.hid hL
  have EK := Lib.hid hok
  have EN := Lib.hid hlen
  have hc2 : ¬ c = 2 := by omega
  have hcn : (2 : Int) + (n : Int) ≤ (c : Int) := by omega
  clear hs hx hy h2 h4 hpf hL hok hlen hyr
  cases h5 : methodsOk ((zs.drop 2).take n)
  · have E : Hid (hfOk zs = false) := Lib.hid (by rw [EK.out, h5])
    go_enter Try.func50, Try.ntmps50
    go_wp2_with (first | (go_at_call 82; refine (spec_BytesValid_any _ zs _ HV.out).mono ?_; rintro e w' ⟨rfl, rfl⟩) | (at_builtin; refine wp_ints rfl (.tmp 30) (.tmp 36) rfl rfl rfl (Own.lit w [] w.heap.size (Nat.le_refl _) (by simp)) HP.out (by rw [EN.out]; simp; omega) (by simp) ?_; intro v2 w2 o2 b2 g2 k2))
    refine (l5Ok_any _ _ _ o2.ints.zero).mono ?_
    rintro e w' ⟨rfl, n3, rfl⟩
    rw [List.nil_append, h5]
    have B2 := Lib.hid (((Below.refl w.heap.size w).alloc (Nat.le_refl _) (.cells #[] 3)).trans b2)
    clear o2 b2 g2 k2
    go_wp2_with fail
    go_ret3
    exact ⟨_, by rw [(hf_not E.out).2, E.out]; first | done | rfl, by rw [(hf_not E.out).1]; exact Own.lit _ [] _ B2.out.size (by simp), (below_drewN B2.out _).alloc B2.out.size _⟩
  · have E : Hid (hfOk zs = true) := Lib.hid (by rw [EK.out, h5])
    go_enter Try.func50, Try.ntmps50
    go_wp2_with (first | (go_at_call 82; refine (spec_BytesValid_any _ zs _ HV.out).mono ?_; rintro e w' ⟨rfl, rfl⟩) | (at_builtin; refine wp_ints rfl (.tmp 30) (.tmp 36) rfl rfl rfl (Own.lit w [] w.heap.size (Nat.le_refl _) (by simp)) HP.out (by rw [EN.out]; simp; omega) (by simp) ?_; intro v2 w2 o2 b2 g2 k2))
    refine (l5Ok_any _ _ _ o2.ints.zero).mono ?_
    rintro e w' ⟨rfl, n3, rfl⟩
    rw [List.nil_append] at o2 ⊢
    rw [h5]
    have B2 := Lib.hid (((Below.refl w.heap.size w).alloc (Nat.le_refl _) (.cells #[] 3)).trans b2)
    have O2 := Lib.hid o2
    obtain ⟨A2, c3, rfl, hl3, _, _⟩ := o2.ints.open_
    rw [EN.out] at hl3 ⊢
    clear o2 b2 g2 k2
    go_wp2_with fail
    go_ret3
    have h6 := O2.out.drewN n3
    rw [EN.out] at h6
    have E2 : hfC zs = 2 + (n : Int) := by rw [hfC, E.out, EY.out]; rfl
    have E3 : hfR zs = (zs.drop 2).take n := by rw [hfR, E.out, EL.out]; rfl
    exact ⟨_, by rw [E2, E.out]; first | done | rfl, by rw [E3]; exact h6, below_drewN B2.out _⟩
end Go.Proofs.Yticlgmdmkomdbaa

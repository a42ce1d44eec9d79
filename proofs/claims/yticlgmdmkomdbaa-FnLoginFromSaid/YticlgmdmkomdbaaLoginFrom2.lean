/-
  The reference's LoginFrom returns the same plain function of the bytes as the program's. Conditions: the slice reads as a list of integers.
-/
import Derived.Test.YticlgmdmkomdbaaLoginFrom
import Derived.Test.YticlgmdmkomdbaaFromLaw2
import Derived.Deep.RegionHeld3
namespace Go.Proofs.Yticlgmdmkomdbaa
open Go.RowKit

theorem below_step {w W W' : World} (h : Below w.heap.size w W) (b : Below W.heap.size W W') : Below w.heap.size w W' := h.trans (b.mono h.size)
theorem below_alloc_ {w W : World} (h : Below w.heap.size w W) (o : Obj) : Below w.heap.size w (W.alloc o) := h.alloc h.size o

def Two (W : World) (g : Nat) (x y : Value) : Prop := W.cell? ⟨g, 0, none⟩ = some x ∧ W.cell? ⟨g, 1, none⟩ = some y ∧ W.frozen? ⟨g, 0, none⟩ = false ∧ W.frozen? ⟨g, 1, none⟩ = false
theorem new_two {W W' : World} {t : TypeId} {x y : Value} (b : Below (W.alloc (.cells #[x, y] t)).heap.size (W.alloc (.cells #[x, y] t)) W') : Two W' W.heap.size x y := by
  have h := (Blk.new W t #[x, y]).kept b
  exact ⟨h.cell 0, h.cell 1, h.free 0, h.free 1⟩
theorem new_two_drew {W W' : World} {t : TypeId} {x y : Value} (b : Below (W.alloc (.cells #[x, y] t)).drew.heap.size (W.alloc (.cells #[x, y] t)).drew W') : Two W' W.heap.size x y := by
  have h := ((Blk.new W t #[x, y]).drewN 1).kept b
  exact ⟨h.cell 0, h.cell 1, h.free 0, h.free 1⟩
theorem new_blk {W W' : World} {t : TypeId} {x y : Value} (b : Below (W.alloc (.cells #[x, y] t)).drew.heap.size (W.alloc (.cells #[x, y] t)).drew W') : Hid (Blk W' W.heap.size t #[x, y]) := Lib.hid (((Blk.new W t #[x, y]).drewN 1).kept b)
theorem keep_blk {W W' : World} {g : Nat} {t : TypeId} {x y : Value} (h : Hid (Blk W g t #[x, y])) (b : Below W.heap.size W W') : Two W' g x y := by
  have h := h.out.kept b
  exact ⟨h.cell 0, h.cell 1, h.free 0, h.free 1⟩
theorem new_two_k {W W' : World} {t : TypeId} {x y : Value} {G : Prop} (b : Below (W.alloc (.cells #[x, y] t)).heap.size (W.alloc (.cells #[x, y] t)) W') (h : Two W' W.heap.size x y → Hid (Blk W' W.heap.size t #[x, y]) → G) : G := h (new_two b) (Lib.hid ((Blk.new W t #[x, y]).kept b))
theorem keep_two_k {W W' : World} {g : Nat} {t : TypeId} {x y : Value} {G : Prop} (q : Hid (Blk W g t #[x, y])) (b : Below W.heap.size W W') (h : Two W' g x y → Hid (Blk W' g t #[x, y]) → G) : G := h (keep_blk q b) (Lib.hid (q.out.kept b))
theorem new_blk_k {W W' : World} {t : TypeId} {x y : Value} {G : Prop} (b : Below (W.alloc (.cells #[x, y] t)).drew.heap.size (W.alloc (.cells #[x, y] t)).drew W') (h : Hid (Blk W' W.heap.size t #[x, y]) → G) : G := h (new_blk b)
theorem below_two {w W : World} {g : Nat} (h : Below w.heap.size w W) (hg : w.heap.size ≤ g) (u v : Value) : Below w.heap.size w ((W.setCell ⟨g, 0, none⟩ u).setCell ⟨g, 1, none⟩ v) :=
  (h.setCell (p := ⟨g, 0, none⟩) hg u).setCell (p := ⟨g, 1, none⟩) hg v
theorem slice_ints {P : Program} {t : TypeId} {w : World} {b o len c s : Nat} {l h : Int} (ht : P.underlying t = some (.slice (P.elem t))) (hz : (sizeOf (P.elem t)).run P w = .ok s w) (h0 : 0 ≤ l) (h1 : l ≤ h) (h2 : h ≤ c) :
    (Instr.slice t (.slice (some ⟨b, o, none⟩) len c) (some (.int .i64 l)) (some (.int .i64 h)) none).run P w = .ok (sliced (some ⟨b, o, none⟩) l.toNat h.toNat c s) w := by
  rw [run_slice_lh w t _ len c ht .i64 .i64 l h h0 h1 h2, hz]
  rfl
theorem Try.ul_ints : Try.prog.underlying 22 = some (.slice (Try.prog.elem 22)) := by kernel_rfl
theorem Try.size_ints (w : World) : (sizeOf (Try.prog.elem 22)).run Try.prog w = .ok 1 w := by kernel_rfl

set_option maxRecDepth 100000 in
set_option maxHeartbeats 1000000 in
theorem spec_LoginFrom_any (v : Value) (zs : List Int) (w : World) (hv : Ints w 0 v zs) :
    Calls Try.prog 58 #[v] w fun e w' => e = .returned (lfT zs) ∧ Below w.heap.size w w' := by
  have HV := Lib.hid hv
  obtain ⟨A, c, rfl, hc, hm, hA⟩ := hv.open_
  clear hv
  have B0 : Hid (∀ cs, Below w.heap.size w (w.alloc (.cells cs 31))) := Lib.hid fun cs => (Below.refl _ _).alloc (Nat.le_refl _) _
  by_cases h1 : validL zs = true
  case neg =>
    have h1 : validL zs = false := by simpa using h1
    have E : Hid (lfOk zs = false) := Lib.hid (by simp [lfOk, lfIn, h1])
    go_enter Try.func58, Try.ntmps58
    go_wp2_with (go_at_call 82; refine (spec_BytesValid_any _ zs _ (HV.out.alloc _)).mono ?_; rintro e w' ⟨rfl, rfl⟩)
    refine bodyPost_ret (v := .tuple #[.agg #[.string .empty, .string .empty], .int .i64 0, .bool false]) (by simp [results, Try.results58, go_sem]; rfl) rfl ⟨by rw [lf_not E.out], B0.out _⟩
  by_cases h2 : zs.length < 5
  · have E : Hid (lfOk zs = false) := Lib.hid (by
      cases hk : lfOk zs
      · rfl
      · have := (lfOk_parts hk).2.1
        omega)
    have h2' : (zs.length : Int) < 5 := by omega
    clear h2
    go_enter Try.func58, Try.ntmps58
    go_wp2_with (go_at_call 82; refine (spec_BytesValid_any _ zs _ (HV.out.alloc _)).mono ?_; rintro e w' ⟨rfl, rfl⟩)
    refine bodyPost_ret (v := .tuple #[.agg #[.string .empty, .string .empty], .int .i64 0, .bool false]) (by simp [results, Try.results58, go_sem]; rfl) rfl ⟨by rw [lf_not E.out], B0.out _⟩
  obtain ⟨b, o, rfl, _, hb, hs⟩ := hA.resolve_left (fun h => by rw [h] at h2; simp at h2)
  have c0 := hs.int_at (j := 0) (by omega)
  have c1 := hs.int_at (j := 1) (by omega)
  have h2' : (5 : Int) ≤ (zs.length : Int) := by omega
  rw [Nat.add_zero] at c0
  obtain ⟨x, hx⟩ : ∃ x, zs.getD 0 0 = x := ⟨_, rfl⟩
  have hbv := bytes_of_valid h1
  have hyr := hbv (zs.getD 1 0) (by simp [List.getD, (by omega : 1 < zs.length)])
  obtain ⟨n, hy⟩ : ∃ n : Nat, zs.getD 1 0 = (n : Int) := ⟨_, (Int.toNat_of_nonneg hyr.1).symm⟩
  rw [hx] at c0
  rw [hy] at c1 hyr
  have hn255 : (n : Int) ≤ 255 := hyr.2
  by_cases h3 : x = 1
  case neg =>
    have E : Hid (lfOk zs = false) := Lib.hid (lf_of_version (by rw [hx]; exact h3))
    have h3' : (x != 1) = true := by simpa using h3
    clear hs hx hy h2 h3 hbv hyr
    go_enter Try.func58, Try.ntmps58
    go_wp2_with (go_at_call 82; refine (spec_BytesValid_any _ zs _ (HV.out.alloc _)).mono ?_; rintro e w' ⟨rfl, rfl⟩)
    refine bodyPost_ret (v := .tuple #[.agg #[.string .empty, .string .empty], .int .i64 0, .bool false]) (by simp [results, Try.results58, go_sem]; rfl) rfl ⟨by rw [lf_not E.out], B0.out _⟩
  subst h3
  have hAt : lfAt zs = 2 + n := by rw [lfAt, hy, Int.toNat_natCast]
  by_cases h4 : zs.length < 3 + n
  · have E : Hid (lfOk zs = false) := Lib.hid (by
      have h : ¬ lfEnd zs ≤ zs.length := by rw [lfEnd, hAt]; omega
      rw [lfOk, lfIn, decide_eq_false h, Bool.and_false]
      rfl)
    have h4' : (zs.length : Int) - 3 < (n : Int) := by omega
    clear hs hx hy h2 h4 hbv hyr hAt
    go_enter Try.func58, Try.ntmps58
    go_wp2_with (go_at_call 82; refine (spec_BytesValid_any _ zs _ (HV.out.alloc _)).mono ?_; rintro e w' ⟨rfl, rfl⟩)
    refine bodyPost_ret (v := .tuple #[.agg #[.string .empty, .string .empty], .int .i64 0, .bool false]) (by simp [results, Try.results58, go_sem]; rfl) rfl ⟨by rw [lf_not E.out], B0.out _⟩
  have h4' : (n : Int) ≤ (zs.length : Int) - 3 := by omega
  have c2 := hs.int_at (j := 2 + n) (by omega)
  have hmr := hbv (zs.getD (2 + n) 0) (by simp [List.getD, (by omega : 2 + n < zs.length)])
  obtain ⟨m, hmm⟩ : ∃ m : Nat, zs.getD (2 + n) 0 = (m : Int) := ⟨_, (Int.toNat_of_nonneg hmr.1).symm⟩
  rw [hmm] at c2 hmr
  have hm255 : (m : Int) ≤ 255 := hmr.2
  have hEnd : lfEnd zs = 2 + n + 1 + m := by rw [lfEnd, hAt, hmm, Int.toNat_natCast]
  by_cases h5 : zs.length < 2 + n + 1 + m
  · have E : Hid (lfOk zs = false) := Lib.hid (by
      have h : ¬ lfEnd zs ≤ zs.length := by rw [hEnd]; omega
      rw [lfOk, lfIn, decide_eq_false h, Bool.and_false]
      rfl)
    have h5' : (zs.length : Int) - (2 + (n : Int)) - 1 < (m : Int) := by omega
    clear hs hx hy h2 h4 hbv hyr hAt hmm hmr hEnd h5
    go_enter Try.func58, Try.ntmps58
    go_wp2_with (go_at_call 82; refine (spec_BytesValid_any _ zs _ (HV.out.alloc _)).mono ?_; rintro e w' ⟨rfl, rfl⟩)
    refine bodyPost_ret (v := .tuple #[.agg #[.string .empty, .string .empty], .int .i64 0, .bool false]) (by simp [results, Try.results58, go_sem]; rfl) rfl ⟨by rw [lf_not E.out], B0.out _⟩
  have h5' : (m : Int) ≤ (zs.length : Int) - (2 + (n : Int)) - 1 := by omega
  have hU : lfU zs = (zs.drop 2).take n := by rw [lfU, hy, Int.toNat_natCast]
  have hW : lfW zs = (zs.drop (2 + n + 1)).take m := by rw [lfW, hAt, hmm, Int.toNat_natCast]
  have hIn : lfIn zs = true := by
    have h : lfEnd zs ≤ zs.length := by rw [hEnd]; omega
    have h' : 1 ≤ zs.length := by omega
    rw [lfIn, h1, decide_eq_true h', hx, decide_eq_true h]
    rfl
  have HU := Lib.hid hU
  have HW := Lib.hid hW
  have HE := Lib.hid hEnd
  have HOK : Hid (lfOk zs = loginOk (strOfNums (lfU zs)) (strOfNums (lfW zs))) := Lib.hid (by rw [lfOk, hIn]; rfl)
  have bU : Hid (∀ x ∈ lfU zs, 0 ≤ x ∧ x ≤ 255) := Lib.hid fun x hx => hbv x (List.mem_of_mem_drop (List.mem_of_mem_take hx))
  have bW : Hid (∀ x ∈ lfW zs, 0 ≤ x ∧ x ≤ 255) := Lib.hid fun x hx => hbv x (List.mem_of_mem_drop (List.mem_of_mem_take hx))
  have hlU : (lfU zs).length ≤ 255 := by rw [hU, List.length_take]; omega
  have hlW : (lfW zs).length ≤ 255 := by rw [hW, List.length_take]; omega
  obtain ⟨p, hp⟩ : ∃ p : Nat, 2 + n = p := ⟨_, rfl⟩
  obtain ⟨p1, hp1⟩ : ∃ p1 : Nat, p + 1 = p1 := ⟨_, rfl⟩
  obtain ⟨q, hq⟩ : ∃ q : Nat, p1 + m = q := ⟨_, rfl⟩
  rw [hp] at c2 hW hEnd
  rw [hp1] at hW hEnd
  rw [hq] at hEnd
  have IU : Hid (Ints w 0 (.slice (some ⟨b, o + 2, none⟩) (p - 2) (c - 2)) (lfU zs)) := Lib.hid (by
    have e : p - 2 = n := by omega
    rw [e, hU]
    exact Ints.part (i := 2) (m := n) hs (by omega) (by omega) (by omega))
  have IW1 : Hid (c = p1 → Ints w 0 (.slice (some ⟨b, o, none⟩) (q - p1) 0) (lfW zs)) := Lib.hid (fun hc1 => by
    have e : q - p1 = m := by omega
    have e2 : m = 0 := by omega
    rw [e, hW, e2, List.take_zero]
    exact Ints.none_ _ _ _ _ (by omega))
  have IW2 : Hid (Ints w 0 (.slice (some ⟨b, o + p1, none⟩) (q - p1) (c - p1)) (lfW zs)) := Lib.hid (by
    have e : q - p1 = m := by omega
    rw [e, hW]
    exact Ints.part hs (by omega) (by omega) (by omega))
  have hpi : (2 : Int) + (n : Int) = (p : Int) := by omega
  have hp1i : (p : Int) + 1 = (p1 : Int) := by omega
  have hqi : (p1 : Int) + (m : Int) = (q : Int) := by omega
  have h5'' : (m : Int) ≤ (zs.length : Int) - (p : Int) - 1 := by omega
  have hc2 : ¬ c = 2 := by omega
  have k1 : (2 : Int) ≤ (p : Int) := by omega
  have k2 : (p : Int) ≤ (c : Int) := by omega
  have k3 : (p1 : Int) ≤ (q : Int) := by omega
  have k4 : (q : Int) ≤ (c : Int) := by omega
  have k5 : (p : Int) < (zs.length : Int) := by omega
  have k6 : (0 : Int) ≤ (p : Int) := by omega
  have k7 : (0 : Int) ≤ (p1 : Int) := by omega
  have k8 : (0 : Int) ≤ (q : Int) := by omega
  have hLU := Lib.hid (show (lfU zs).length ≤ 1000000000000 by omega)
  have hLW := Lib.hid (show (lfW zs).length ≤ 1000000000000 by omega)
  have e1 : IntKind.i64.wrap (p1 : Int) = (p1 : Int) := IntWalk.i64_in _ (by omega)
  have HQ := Lib.hid hEnd
  clear hs hx hy h2 h4 hbv hyr hAt hmm hmr hEnd h5 hU hW hIn h5' hp hp1 hq
  go_enter Try.func58, Try.ntmps58
  go_wp2_with (go_at_call 82; refine (spec_BytesValid_any _ zs _ (HV.out.alloc _)).mono ?_; rintro e w' ⟨rfl, rfl⟩)
  obtain ⟨W0, hW0⟩ : ∃ W0, w.alloc (.cells #[.string .empty, .string .empty] 31) = W0 := ⟨_, rfl⟩
  have K0 : Hid (Blk W0 w.heap.size 31 #[.string .empty, .string .empty]) := Lib.hid (by rw [← hW0]; exact Blk.new w _ _)
  have IU0 := Lib.hid (IU.out.alloc (.cells #[.string .empty, .string .empty] 31))
  have IW10 := Lib.hid (fun h => (IW1.out h).alloc (.cells #[.string .empty, .string .empty] 31))
  have IW20 := Lib.hid (IW2.out.alloc (.cells #[.string .empty, .string .empty] 31))
  have BW0 : Hid (Below w.heap.size w W0) := Lib.hid (by rw [← hW0]; exact B0.out _)
  have zW0 : W0.heap.size = w.heap.size + 1 := by rw [← hW0]; simp
  have ZW := Lib.hid zW0
  change Code.wp _ _ _ _ (w.alloc (.cells #[.string .empty, .string .empty] 31))
  rw [hW0] at IU0 IW10 IW20 ⊢
  clear hW0 IU IW1 IW2 zW0 c0 c1 c2 hpi hqi h2' h4' h5'' hc hm B0 hb HV hn255 hm255 hlU hlW h1
  obtain ⟨V1, hV1, JU⟩ : ∃ V1, (∀ W : World, (Instr.slice 22 (.slice (some ⟨b, o, none⟩) zs.length c) (some (.int .i64 2)) (some (.int .i64 (p : Int))) none).run Try.prog W = .ok V1 W) ∧ Hid (Ints W0 0 V1 (lfU zs)) := by
    refine ⟨_, fun W => slice_ints Try.ul_ints (Try.size_ints W) (by omega) k1 k2, ?_⟩
    have e : sliced (some ⟨b, o, none⟩) (2 : Int).toNat (p : Int).toNat c 1 = .slice (some ⟨b, o + 2, none⟩) (p - 2) (c - 2) := by
      simp [sliced, hc2, addr_add]
    rw [e]
    exact IU0
  obtain ⟨V2, hV2, JW⟩ : ∃ V2, (∀ W : World, (Instr.slice 22 (.slice (some ⟨b, o, none⟩) zs.length c) (some (.int .i64 (p1 : Int))) (some (.int .i64 (q : Int))) none).run Try.prog W = .ok V2 W) ∧ Hid (Ints W0 0 V2 (lfW zs)) := by
    refine ⟨_, fun W => slice_ints Try.ul_ints (Try.size_ints W) k7 k3 k4, ?_⟩
    by_cases hc3 : c = p1
    · have e : sliced (some ⟨b, o, none⟩) (p1 : Int).toNat (q : Int).toNat c 1 = .slice (some ⟨b, o, none⟩) (q - p1) 0 := by
        simp [sliced, hc3]
      rw [e]
      exact Lib.hid (IW10.out hc3)
    · have e : sliced (some ⟨b, o, none⟩) (p1 : Int).toNat (q : Int).toNat c 1 = .slice (some ⟨b, o + p1, none⟩) (q - p1) (c - p1) := by
        simp [sliced, hc3, addr_add]
      rw [e]
      exact IW20
  clear IU0 IW10 IW20 k2 k3 k4 k5 k6 k7 k8 hc2 k1
  have S0 : Below W0.heap.size W0 W0.drew := (Below.refl _ _).drew
  have BU := Lib.hid bU.out
  have S0' : Hid (Below W0.heap.size W0 W0.drew) := Lib.hid S0
  clear hA HU HW HE bU S0
  go_region_held3 (fun w' => Below W0.heap.size W0 w') (first | exact S0'.out | exact below_step ‹_› b2 | exact below_step ‹_› b3 | exact below_alloc_ ‹_› _ | exact below_alloc_ (below_step (below_step S0'.out b2) b3) _ | exact below_two ‹_› (below_step S0'.out b2).size _ _ | exact below_two ‹_› (Nat.le_refl _) _ _)
    (first
      | (go_at_call_of 85 V1; refine (l1Bytes_any _ (lfU zs) _ (JU.out.below ‹_›) BU.out hLU.out).mono ?_; rintro e w2 ⟨rfl, b2⟩; (first | (with_reducible refine new_blk_k b2 ?_; intro qb) | skip))
      | (go_at_call_of 85 V2; refine (l1Bytes_any _ (lfW zs) _ (JW.out.below ‹_›) bW.out hLW.out).mono ?_; rintro e w3 ⟨rfl, b3⟩; (first | (refine new_two_k b3 ?_; rintro ⟨ra, rb, rc, rd⟩ rk) | (refine keep_two_k qb b3 ?_; rintro ⟨ra, rb, rc, rd⟩ rk) | skip)))
  all_goals
    rename_i hS
    first
      | (have KX := Lib.hid ((rk.out.set_ 0 (.string (strOfNums (lfU zs)))).set_ 1 (.string (strOfNums (lfW zs)))))
      | (have KX := Lib.hid (Blk.new w3 31 #[.string (strOfNums (lfU zs)), .string (strOfNums (lfW zs))]))
    have K0X := Lib.hid (K0.out.below hS (by have := ZW.out; omega))
    have HS := Lib.hid hS
    go_wp2_with fail
    refine (l11Ok_any _ _ _ (by unfold maxLen; rw [str_length]; have := hLU.out; omega) (by unfold maxLen; rw [str_length]; have := hLW.out; omega)).mono ?_
    rintro e w5 ⟨rfl, b5⟩
    have K5 := K0X.out.kept b5
    have KX5 := KX.out.kept b5
    have a0 : w5.cell? ⟨w.heap.size, 0, none⟩ = some (.string .empty) := K5.cell 0
    have a1 : w5.cell? ⟨w.heap.size, 1, none⟩ = some (.string .empty) := K5.cell 1
    have fa0 := K5.free 0
    have fa1 := K5.free 1
    have x0 : w5.cell? ⟨_, 0, none⟩ = some (.string (strOfNums (lfU zs))) := KX5.cell 0
    have x1 : w5.cell? ⟨_, 1, none⟩ = some (.string (strOfNums (lfW zs))) := KX5.cell 1
    have B5 : Hid (Below w.heap.size w w5) := Lib.hid (BW0.out.trans ((HS.out.trans (b5.mono HS.out.size)).mono (by have := ZW.out; omega)))
    clear hS K5 KX5 b5
    cases hok : loginOk (strOfNums (lfU zs)) (strOfNums (lfW zs))
    · have E : Hid (lfOk zs = false) := Lib.hid (by rw [HOK.out, hok])
      clear hok x0 x1
      go_wp2_with fail
      refine bodyPost_ret (v := .tuple #[.agg #[.string .empty, .string .empty], .int .i64 0, .bool false]) (by simp [results, Try.results58, go_sem, a0, a1]; try rfl) rfl ⟨by rw [lf_not E.out], ?_⟩
      exact (B5.out.setCell (p := ⟨w.heap.size, 0, none⟩) (Nat.le_refl _) _).setCell (p := ⟨w.heap.size, 1, none⟩) (Nat.le_refl _) _
    · have E : Hid (lfOk zs = true) := Lib.hid (by rw [HOK.out, hok])
      clear hok
      go_wp2_with fail
      refine bodyPost_ret (v := .tuple #[.agg #[.string (strOfNums (lfU zs)), .string (strOfNums (lfW zs))], .int .i64 (q : Int), .bool true]) (by simp [results, Try.results58, go_sem, a0, a1]; try rfl) rfl ⟨by rw [lf_yes E.out, HQ.out], ?_⟩
      exact (B5.out.setCell (p := ⟨w.heap.size, 0, none⟩) (Nat.le_refl _) _).setCell (p := ⟨w.heap.size, 1, none⟩) (Nat.le_refl _) _
end Go.Proofs.Yticlgmdmkomdbaa

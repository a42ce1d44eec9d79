/-
  The reference's l12From, RequestFrom and ReplyFrom return the same plain functions of the bytes as the program's. Conditions: the slice reads as a list of integers.
  The reference's l12From, RequestFrom and ReplyFrom return the same plain functions of the bytes as the program's. Conditions: the slice reads as a list of integers.
  The reference's RequestFrom and ReplyFrom return the same plain functions of the bytes as the program's. Conditions: the slice reads as a list of integers.
-/
import Derived.Test.YtahlgdehfjjoeaaDoorAo
import Derived.Test.YtahlgdehfjjoeaaDoorRf
namespace Go.Proofs.YtahlgdehfjjoeaaDoor
open Go.RowKit

theorem sz_of_not_in {t : List Int} (hvl : validL t = true) (hin : aIn t = false) : szL t < 0 ∨ (t.length : Int) < szL t := by
  have hbv := bytes_of_valid hvl
  by_cases h1 : t.getD 0 0 = 1
  · right
    rw [szL, if_pos h1]
    have e : aN t = 7 := by rw [aN, if_pos h1]
    rw [aIn, e, decide_eq_true h1] at hin
    simp at hin
    omega
  · by_cases h3 : t.getD 0 0 = 3 ∧ 2 ≤ t.length
    · right
      have b1 := hbv (t.getD 1 0) (by simp [List.getD, (by omega : 1 < t.length)])
      have e : aN t = 4 + (t.getD 1 0).toNat := by rw [aN, if_neg h1]
      rw [aIn, e, decide_eq_true h3.1, decide_eq_true h3.2] at hin
      have hin' : ¬ 4 + (t.getD 1 0).toNat ≤ t.length := by
        intro h
        rw [decide_eq_true h] at hin
        simp at hin
      rw [szL, if_neg h1, if_pos h3, IntWalk.wrap64_in _ (by omega)]
      omega
    · left
      rw [szL, if_neg h1, if_neg h3]
      omega
theorem spec_AddressOf_any (v : Value) (t : List Int) (w : World) (hv : Ints w 0 v t) : Calls Tryd.prog 78 #[v] w fun e w' => GaveAo w (aoOk t) t e w' := by
  cases hvl : validL t
  · have hE : aoOk t = false := by rw [aoOk, hvl]; rfl
    exact spec_AddressOf_not v t w hv (.inl hvl) hE
  · cases hin : aIn t
    · have hE : aoOk t = false := by rw [aoOk, afOk, hin]; simp
      exact spec_AddressOf_not v t w hv (.inr (sz_of_not_in hvl hin)) hE
    · exact spec_AddressOf_in v t w hv hvl hin

theorem slice_from_ints {P : Program} {t : TypeId} {w : World} {b o len c s : Nat} {l : Int} (ht : P.underlying t = some (.slice (P.elem t))) (hz : (sizeOf (P.elem t)).run P w = .ok s w) (h0 : 0 ≤ l) (h1 : l ≤ len) :
    (Instr.slice t (.slice (some ⟨b, o, none⟩) len c) (some (.int .i64 l)) none none).run P w = .ok (sliced (some ⟨b, o, none⟩) l.toNat len c s) w := by
  rw [run_slice_l w t _ len c ht .i64 l h0 h1, hz]
  rfl
/-- The end of a slice of integers, its run over an abstract value. -/
theorem slice_end {W0 : World} {b o n c l : Nat} {zs : List Int} (hs : Seg W0 3 b o (iv zs)) (hn : zs.length = n) (hlh : l ≤ n) (hnc : n ≤ c) (hc : c ≤ 9223372036854775807) :
    ∃ V, (∀ W : World, (Instr.slice 23 (.slice (some ⟨b, o, none⟩) n c) (some (.int .i64 (l : Int))) none none).run Tryd.prog W = .ok V W) ∧ Ints W0 0 V (zs.drop l) := by
  refine ⟨_, fun W => slice_from_ints Tryd.ulInts (Tryd.sizeInts W) (by omega) (by omega), ?_⟩
  simp only [Int.toNat_natCast, sliced]
  have hd : zs.drop l = (zs.drop l).take (n - l) := by
    rw [List.take_of_length_le]
    simp
    omega
  by_cases hcl : c = l
  · have e : n - l = 0 := by omega
    rw [hd, e, List.take_zero]
    simp [hcl]
    exact Ints.none_ _ _ _ _ (by omega)
  · rw [hd]
    simp [hcl, addr_add]
    exact Ints.part hs (by omega) (by omega) (by omega)

theorem cfT_not {zs : List Int} (h : cfOk zs = false) : (∀ q, EfT (cfOk zs) zs q = .tuple #[.int .i64 0, .agg #[.int .i64 0, q, .string .empty, .int .i64 0], .int .i64 0, .bool false]) ∧ fxQ (cfOk zs) zs = [] := by
  rw [h]; exact ⟨fun _ => rfl, rfl⟩
theorem cfT_yes {zs : List Int} (h : cfOk zs = true) : (∀ q, EfT (cfOk zs) zs q = .tuple #[.int .i64 (zs.getD 1 0), .agg #[.int .i64 ((zs.drop 3).getD 0 0), q, .string (aM (zs.drop 3)), .int .i64 (aP (zs.drop 3))], .int .i64 ((aN (zs.drop 3) : Int) + 3), .bool true]) ∧ fxQ (cfOk zs) zs = aQ (zs.drop 3) := by
  have e : ((3 + aN (zs.drop 3) : Nat) : Int) = (aN (zs.drop 3) : Int) + 3 := by omega
  rw [h]
  refine ⟨fun q => ?_, rfl⟩
  rw [← e]
  rfl

set_option maxRecDepth 100000 in
set_option maxHeartbeats 2000000 in
/-- The ways that end ahead of the address. -/
theorem l12From_not (v : Value) (zs : List Int) (w : World) (hv : Ints w 0 v zs) (h : validL zs = false ∨ zs.length < 3 ∨ 3 ≤ zs.length ∧ (zs.getD 0 0 ≠ 5 ∨ zs.getD 0 0 = 5 ∧ zs.getD 2 0 ≠ 0)) (hE : cfOk zs = false) :
    Calls Tryd.prog 63 #[v] w fun e w' => GaveEf w (cfOk zs) zs e w' := by
  have HV := Lib.hid hv
  obtain ⟨t1, t2⟩ := cfT_not hE
  have T1 := Lib.hid t1
  have T2 := Lib.hid t2
  obtain ⟨A, c, rfl, hc, hm, hA⟩ := hv.open_
  obtain ⟨V, hV⟩ : ∃ V, w.alloc (.cells #[.int .i64 0, .slice none 0 0, .string ⟨#[]⟩, .int .i64 0] 25) = V := ⟨_, rfl⟩
  have K : Hid (Blk V w.heap.size 25 #[.int .i64 0, .slice none 0 0, .string .empty, .int .i64 0]) := Lib.hid (by rw [← hV]; exact Blk.new _ _ _)
  have B : Hid (Below w.heap.size w V) := Lib.hid (by rw [← hV]; exact (Below.refl _ _).alloc (Nat.le_refl _) _)
  have I : Hid (Ints V 0 (.slice A zs.length c) zs) := Lib.hid (by rw [← hV]; exact HV.out.alloc _)
  have r0 : V.cell? ⟨w.heap.size, 0, none⟩ = some (.int .i64 0) := K.out.cell 0
  have r1 : V.cell? ⟨w.heap.size, 1, none⟩ = some (.slice none 0 0) := K.out.cell 1
  have r2 : V.cell? ⟨w.heap.size, 2, none⟩ = some (.string .empty) := K.out.cell 2
  have r3 : V.cell? ⟨w.heap.size, 3, none⟩ = some (.int .i64 0) := K.out.cell 3
  have f0 := K.out.free 0
  have f1 := K.out.free 1
  have f2 := K.out.free 2
  have f3 := K.out.free 3
  clear hv hE t1 t2
  cases hvl : validL zs
  · clear h hA
    go_enter Tryd.func63, Tryd.ntmps63
    go_wp2_with (go_at_call 77; refine (spec_BytesValid_any _ zs _ I.out).mono ?_; rintro e w' ⟨rfl, rfl⟩; rw [hvl])
    refine bodyPost_ret (v := .tuple #[.int .i64 0, .agg #[.int .i64 0, .slice none 0 0, .string .empty, .int .i64 0], .int .i64 0, .bool false]) (by simp [results, Tryd.results63, go_sem, r0, r1, r2, r3]; try rfl) rfl ?_
    exact ⟨_, by rw [T1.out], by rw [T2.out]; exact Own.nil_ _ _, below_st4 B.out (Nat.le_refl _) _ _ _ _⟩
  · rcases h with h | h | ⟨h, h'⟩
    · rw [hvl] at h; cases h
    · have h' : (zs.length : Int) < 3 := by omega
      clear h hA
      go_enter Tryd.func63, Tryd.ntmps63
      go_wp2_with (go_at_call 77; refine (spec_BytesValid_any _ zs _ I.out).mono ?_; rintro e w' ⟨rfl, rfl⟩; rw [hvl])
      refine bodyPost_ret (v := .tuple #[.int .i64 0, .agg #[.int .i64 0, .slice none 0 0, .string .empty, .int .i64 0], .int .i64 0, .bool false]) (by simp [results, Tryd.results63, go_sem, r0, r1, r2, r3]; try rfl) rfl ?_
      exact ⟨_, by rw [T1.out], by rw [T2.out]; exact Own.nil_ _ _, below_st4 B.out (Nat.le_refl _) _ _ _ _⟩
    · obtain ⟨b, o, rfl, _, hb, hs⟩ := hA.resolve_left (fun h0 => by rw [h0] at h; simp at h)
      have hsV : Seg V 3 b o (iv zs) := by rw [← hV]; exact hs.alloc _
      have c0 := hsV.int_at (j := 0) (by omega)
      have c2 := hsV.int_at (j := 2) (by omega)
      rw [Nat.add_zero] at c0
      have h3 : ¬ (zs.length : Int) < 3 := by omega
      have hp0 : (0 : Int) < (zs.length : Int) := by omega
      have hp2 : (2 : Int) < (zs.length : Int) := by omega
      obtain ⟨x, hx⟩ : ∃ x, zs.getD 0 0 = x := ⟨_, rfl⟩
      obtain ⟨y, hy⟩ : ∃ y, zs.getD 2 0 = y := ⟨_, rfl⟩
      rw [hx] at c0 h'
      rw [hy] at c2 h'
      rcases h' with h5 | ⟨rfl, h0⟩
      · have h5' : (x != 5) = true := by simpa using h5
        clear h hs hsV hx hy h5 hA
        go_enter Tryd.func63, Tryd.ntmps63
        go_wp2_with (go_at_call 77; refine (spec_BytesValid_any _ zs _ I.out).mono ?_; rintro e w' ⟨rfl, rfl⟩; rw [hvl])
        refine bodyPost_ret (v := .tuple #[.int .i64 0, .agg #[.int .i64 0, .slice none 0 0, .string .empty, .int .i64 0], .int .i64 0, .bool false]) (by simp [results, Tryd.results63, go_sem, r0, r1, r2, r3]; try rfl) rfl ?_
        exact ⟨_, by rw [T1.out], by rw [T2.out]; exact Own.nil_ _ _, below_st4 B.out (Nat.le_refl _) _ _ _ _⟩
      · have h0' : (y != 0) = true := by simpa using h0
        clear h hs hsV hx hy h0 hA
        go_enter Tryd.func63, Tryd.ntmps63
        go_wp2_with (go_at_call 77; refine (spec_BytesValid_any _ zs _ I.out).mono ?_; rintro e w' ⟨rfl, rfl⟩; rw [hvl])
        refine bodyPost_ret (v := .tuple #[.int .i64 0, .agg #[.int .i64 0, .slice none 0 0, .string .empty, .int .i64 0], .int .i64 0, .bool false]) (by simp [results, Tryd.results63, go_sem, r0, r1, r2, r3]; try rfl) rfl ?_
        exact ⟨_, by rw [T1.out], by rw [T2.out]; exact Own.nil_ _ _, below_st4 B.out (Nat.le_refl _) _ _ _ _⟩
end Go.Proofs.YtahlgdehfjjoeaaDoor
namespace Go.Proofs.YtahlgdehfjjoeaaDoor
open Go.RowKit

theorem cf_of_front {zs : List Int} (hv : validL zs = true) (hl : 3 ≤ zs.length) (h0 : zs.getD 0 0 = 5) (h2 : zs.getD 2 0 = 0) : aoOk (zs.drop 3) = cfOk zs := by
  have hd : validL (zs.drop 3) = true := validL_of (by have := validL_len hv; simp; omega) fun x hx => bytes_of_valid hv x (List.mem_of_mem_drop hx)
  rw [aoOk, cfOk, hv, hd, decide_eq_true hl, decide_eq_true h0, decide_eq_true h2]
  rfl

set_option maxRecDepth 100000 in
set_option maxHeartbeats 4000000 in
theorem l12From_front (v : Value) (zs : List Int) (w : World) (hv : Ints w 0 v zs) (hvl : validL zs = true) (hl : 3 ≤ zs.length) (h0 : zs.getD 0 0 = 5) (h2 : zs.getD 2 0 = 0) :
    Calls Tryd.prog 63 #[v] w fun e w' => GaveEf w (cfOk zs) zs e w' := by
  have HV := Lib.hid hv
  obtain ⟨A, c, rfl, hc, hm, hA⟩ := hv.open_
  have hao := cf_of_front hvl hl h0 h2
  have hl120 := validL_len hvl
  obtain ⟨b, o, rfl, _, hb, hs⟩ := hA.resolve_left (fun h => by rw [h] at hl; simp at hl)
  obtain ⟨V, hV⟩ : ∃ V, w.alloc (.cells #[.int .i64 0, .slice none 0 0, .string ⟨#[]⟩, .int .i64 0] 25) = V := ⟨_, rfl⟩
  have K : Hid (Blk V w.heap.size 25 #[.int .i64 0, .slice none 0 0, .string .empty, .int .i64 0]) := Lib.hid (by rw [← hV]; exact Blk.new _ _ _)
  have B : Hid (Below w.heap.size w V) := Lib.hid (by rw [← hV]; exact (Below.refl _ _).alloc (Nat.le_refl _) _)
  have I : Hid (Ints V 0 (.slice (some ⟨b, o, none⟩) zs.length c) zs) := Lib.hid (by rw [← hV]; exact HV.out.alloc _)
  have hsV : Seg V 3 b o (iv zs) := by rw [← hV]; exact hs.alloc _
  have zV : V.heap.size = w.heap.size + 1 := by rw [← hV]; simp
  have c0 := hsV.int_at (j := 0) (by omega)
  have c2 := hsV.int_at (j := 2) (by omega)
  rw [Nat.add_zero, h0] at c0
  rw [h2] at c2
  have HSV := Lib.hid hsV
  obtain ⟨V3, hV3, j3⟩ := slice_end hsV rfl (l := 3) hl hc hm
  have hV3' : ∀ W : World, (Instr.slice 23 (.slice (some ⟨b, o, none⟩) zs.length c) (some (.int .i64 3)) none none).run Tryd.prog W = .ok V3 W := hV3
  have h3 : ¬ (zs.length : Int) < 3 := by omega
  have hp0 : (0 : Int) < (zs.length : Int) := by omega
  have hp1 : (1 : Int) < (zs.length : Int) := by omega
  have hp2 : (2 : Int) < (zs.length : Int) := by omega
  have HAO : ∃ K Q M P N, (∀ (u : Value) (W : World), Ints W 0 u (zs.drop 3) → Calls Tryd.prog 78 #[u] W fun e w' => ∃ q, e = .returned (.tuple #[.agg #[.int .i64 K, q, .string M, .int .i64 P], .int .i64 N, .bool (cfOk zs)]) ∧ Own w' W.heap.size q Q ∧ Below W.heap.size W w') ∧
      (cfOk zs = true → (∀ q, EfT (cfOk zs) zs q = .tuple #[.int .i64 (zs.getD 1 0), .agg #[.int .i64 K, q, .string M, .int .i64 P], .int .i64 (N + 3), .bool true]) ∧ fxQ (cfOk zs) zs = Q ∧ 0 ≤ N ∧ N ≤ 1000) := by
    refine ⟨if aoOk (zs.drop 3) = true then (zs.drop 3).getD 0 0 else 0, if aoOk (zs.drop 3) = true then aQ (zs.drop 3) else [], if aoOk (zs.drop 3) = true then aM (zs.drop 3) else ByteArray.empty, if aoOk (zs.drop 3) = true then aP (zs.drop 3) else 0, if aoOk (zs.drop 3) = true then (aN (zs.drop 3) : Int) else 0, fun u W h => (spec_AddressOf_any u _ W h).mono fun e w' ⟨q, h1, h2, h3⟩ => ⟨q, ?_, h2, h3⟩, fun h => ?_⟩
    · rw [h1, ← hao]; rfl
    · have h' := hao.trans h
      have hN := (afOk_parts (cfOk_parts h).2.2.2.2).1
      have hl' : (zs.drop 3).length ≤ 120 := by simp; omega
      rw [h', if_pos rfl, if_pos rfl, if_pos rfl, if_pos rfl, if_pos rfl]
      exact ⟨(cfT_yes h).1, (cfT_yes h).2, by omega, by omega⟩
  obtain ⟨K', Q, M, P, N, H1, H2⟩ := HAO
  have HAO := Lib.hid H1
  have HT := Lib.hid H2
  have c1 := hsV.int_at (j := 1) (by omega)
  obtain ⟨C, hC⟩ : ∃ C, zs.getD 1 0 = C := ⟨_, rfl⟩
  rw [hC] at c1 HT
  have J3 := Lib.hid j3
  have hbV : b < V.heap.size := by omega
  clear hv hV3 hs hsV hA h0 h2 hao j3 hl H1 H2 hC
  go_enter Tryd.func63, Tryd.ntmps63
  go_wp2_with (go_at_call 77; refine (spec_BytesValid_any _ zs _ I.out).mono ?_; rintro e w' ⟨rfl, rfl⟩; rw [hvl])
  refine (HAO.out _ _ J3.out).mono ?_
  rintro e w1 ⟨q, rfl, o1, b1⟩
  obtain ⟨A1, d1, rfl, _, _, _⟩ := o1.form
  obtain ⟨V1, hV1⟩ : ∃ V1, w1.alloc (.cells #[.int .i64 K', .slice A1 Q.length d1, .string M, .int .i64 P] 25) = V1 := ⟨_, rfl⟩
  have X1 : Hid (Blk V1 w1.heap.size 25 #[.int .i64 K', .slice A1 Q.length d1, .string M, .int .i64 P]) := Lib.hid (by rw [← hV1]; exact Blk.new _ _ _)
  have K1 : Hid (Blk V1 w.heap.size 25 #[.int .i64 0, .slice none 0 0, .string .empty, .int .i64 0]) := Lib.hid (by rw [← hV1]; exact (K.out.kept b1).alloc _)
  have O1 : Hid (Own V1 (w.heap.size + 1) (.slice A1 Q.length d1) Q) := Lib.hid (by rw [← hV1, ← zV]; exact o1.alloc _)
  have B1 : Hid (Below w.heap.size w V1) := Lib.hid (by
    rw [← hV1]
    have h := B.out.trans (b1.mono B.out.size)
    exact h.alloc h.size _)
  have e1 : V1.cell? ⟨b, o + 1, none⟩ = some (.int .i64 C) := by
    rw [← hV1]
    exact (World.cell?_alloc_lt w1 _ ⟨b, o + 1, none⟩ (Nat.lt_of_lt_of_le hbV b1.size)).trans ((b1.cell (p := ⟨b, o + 1, none⟩) hbV).trans c1)
  have z1 : w.heap.size < w1.heap.size := by have := b1.size; omega
  have y0 : V1.cell? ⟨w1.heap.size, 0, none⟩ = some (.int .i64 K') := X1.out.cell 0
  have y1 : V1.cell? ⟨w1.heap.size, 1, none⟩ = some (.slice A1 Q.length d1) := X1.out.cell 1
  have y2 : V1.cell? ⟨w1.heap.size, 2, none⟩ = some (.string M) := X1.out.cell 2
  have y3 : V1.cell? ⟨w1.heap.size, 3, none⟩ = some (.int .i64 P) := X1.out.cell 3
  have r0 : V1.cell? ⟨w.heap.size, 0, none⟩ = some (.int .i64 0) := K1.out.cell 0
  have r1 : V1.cell? ⟨w.heap.size, 1, none⟩ = some (.slice none 0 0) := K1.out.cell 1
  have r2 : V1.cell? ⟨w.heap.size, 2, none⟩ = some (.string .empty) := K1.out.cell 2
  have r3 : V1.cell? ⟨w.heap.size, 3, none⟩ = some (.int .i64 0) := K1.out.cell 3
  have f0 := K1.out.free 0
  have f1 := K1.out.free 1
  have f2 := K1.out.free 2
  have f3 := K1.out.free 3
  have n1 : w.heap.size ≠ w1.heap.size := by omega
  have n2 : w1.heap.size ≠ w.heap.size := by omega
  clear o1 b1 c0 c1 c2
  cases hcf : cfOk zs
  · obtain ⟨t1, t2⟩ := cfT_not hcf
    have T1 := Lib.hid t1
    have T2 := Lib.hid t2
    clear t1 t2 hcf
    go_wp2_with fail
    refine bodyPost_ret (v := .tuple #[.int .i64 0, .agg #[.int .i64 0, .slice none 0 0, .string .empty, .int .i64 0], .int .i64 0, .bool false]) (by simp [results, Tryd.results63, go_sem, r0, r1, r2, r3]; try rfl) rfl ?_
    exact ⟨_, by rw [T1.out], by rw [T2.out]; exact Own.nil_ _ _, below_st4 B1.out (Nat.le_refl _) _ _ _ _⟩
  · obtain ⟨t1, t2, hN0, hN1⟩ := HT.out hcf
    have T1 := Lib.hid t1
    have T2 := Lib.hid t2
    have e3 : IntKind.i64.wrap (N + 3) = N + 3 := IntWalk.i64_in _ (by omega)
    have e4 : wrap64 (N + 3) = N + 3 := IntWalk.wrap64_in _ (by omega)
    clear t1 t2 hcf
    go_wp2_with fail
    go_region
    go_wp2_with fail
    refine bodyPost_ret (v := .tuple #[.int .i64 C, .agg #[.int .i64 K', .slice A1 Q.length d1, .string M, .int .i64 P], .int .i64 (N + 3), .bool true]) (by simp [results, Tryd.results63, go_sem, r0, r1, r2, r3]; try rfl) rfl ?_
    exact ⟨_, by rw [T1.out], by rw [T2.out]; exact (O1.out.drew.st4 (Nat.lt_succ_self _)).more (Nat.le_succ _), below_st4 B1.out.drew (Nat.le_refl _) _ _ _ _⟩

theorem l12From_any (v : Value) (zs : List Int) (w : World) (hv : Ints w 0 v zs) : Calls Tryd.prog 63 #[v] w fun e w' => GaveEf w (cfOk zs) zs e w' := by
  cases hvl : validL zs
  · exact l12From_not v zs w hv (.inl hvl) (by rw [cfOk, hvl]; simp)
  by_cases hl : 3 ≤ zs.length
  case neg => exact l12From_not v zs w hv (.inr (.inl (by omega))) (by rw [cfOk, decide_eq_false hl]; simp)
  by_cases h0 : zs.getD 0 0 = 5
  case neg => exact l12From_not v zs w hv (.inr (.inr ⟨hl, .inl h0⟩)) (by rw [cfOk, decide_eq_false h0]; simp)
  by_cases h2 : zs.getD 2 0 = 0
  case neg => exact l12From_not v zs w hv (.inr (.inr ⟨hl, .inr ⟨h0, h2⟩⟩)) (by rw [cfOk, decide_eq_false h2]; simp)
  exact l12From_front v zs w hv hvl hl h0 h2
end Go.Proofs.YtahlgdehfjjoeaaDoor
namespace Go.Proofs.YtahlgdehfjjoeaaDoor
open Go.RowKit

theorem l12From_ok {zs : List Int} (h : cfOk zs = true) (u : Value) (W : World) (hu : Ints W 0 u zs) :
    CfGave 63 u W (zs.getD 1 0) ((zs.drop 3).getD 0 0) (aQ (zs.drop 3)) (aM (zs.drop 3)) (aP (zs.drop 3)) ((3 + aN (zs.drop 3) : Nat) : Int) true := by
  refine (l12From_any u zs W hu).mono ?_
  rintro e w' ⟨q, rfl, o, b⟩
  rw [h] at o ⊢
  exact ⟨q, rfl, o, b⟩
theorem l12From_no {zs : List Int} (h : cfOk zs = false) (u : Value) (W : World) (hu : Ints W 0 u zs) : CfGave 63 u W 0 0 [] ByteArray.empty 0 0 false := by
  refine (l12From_any u zs W hu).mono ?_
  rintro e w' ⟨q, rfl, o, b⟩
  rw [h] at o ⊢
  exact ⟨q, rfl, o, b⟩

set_option maxRecDepth 100000 in
set_option maxHeartbeats 4000000 in
theorem spec_RequestFrom_any (v : Value) (zs : List Int) (w : World) (hv : Ints w 0 v zs) : Calls Tryd.prog 44 #[v] w fun e w' => GaveRf w (rfOk zs) zs e w' := by
  have HV := Lib.hid hv
  have hcases : ∃ C K Q M P N b, (∀ (u : Value) (W : World), Ints W 0 u zs → CfGave 63 u W C K Q M P N b) ∧ (b = false ∧ rfOk zs = false ∨ b = true ∧ inR C 1 3 = rfOk zs ∧
      (rfOk zs = true → (∀ q, RfT (rfOk zs) zs q = .tuple #[.agg #[.int .i64 C, .int .i64 K, q, .string M, .int .i64 P], .int .i64 N, .bool true]) ∧ fxQ (rfOk zs) zs = Q)) := by
    cases h : cfOk zs
    · exact ⟨_, _, _, _, _, _, false, fun u W hu => l12From_no h u W hu, .inl ⟨rfl, by rw [rfOk, h]; rfl⟩⟩
    · refine ⟨_, _, _, _, _, _, true, fun u W hu => l12From_ok h u W hu, .inr ⟨rfl, ?_, fun h2 => rfT_yes h2⟩⟩
      rw [rfOk, h, Bool.true_and]
  obtain ⟨C, K, Q, M, P, N, b, H, hb⟩ := hcases
  have HC := Lib.hid H
  have HB := Lib.hid hb
  clear hv H hb
  go_enter Tryd.func44, Tryd.ntmps44
  go_wp2_with fail
  refine (HC.out _ _ (HV.out.alloc _)).mono ?_
  rintro e w1 ⟨q, rfl, o1, b1⟩
  obtain ⟨A1, c1, rfl, _, _, _⟩ := o1.form
  have K1 := Lib.hid ((Blk.new w 43 #[.int .i64 0, .int .i64 0, .slice none 0 0, .string .empty, .int .i64 0]).kept b1)
  have B1 : Hid (Below w.heap.size w w1) := Lib.hid (((Below.refl _ _).alloc (Nat.le_refl _) _).trans (b1.mono (by simp)))
  have O1 := Lib.hid (o1.more (base' := w.heap.size + 1) (by simp))
  have z1 := K1.out.lt
  clear o1 b1
  obtain ⟨V1, hV1⟩ : ∃ V1, w1.alloc (.cells #[.int .i64 K, .slice A1 Q.length c1, .string M, .int .i64 P] 25) = V1 := ⟨_, rfl⟩
  have X1 : Hid (Blk V1 w1.heap.size 25 #[.int .i64 K, .slice A1 Q.length c1, .string M, .int .i64 P]) := Lib.hid (by rw [← hV1]; exact Blk.new _ _ _)
  have K2 : Hid (Blk V1 w.heap.size 43 #[.int .i64 0, .int .i64 0, .slice none 0 0, .string .empty, .int .i64 0]) := Lib.hid (by rw [← hV1]; exact (K1.out.alloc _))
  have O2 : Hid (Own V1 (w.heap.size + 1) (.slice A1 Q.length c1) Q) := Lib.hid (by rw [← hV1]; exact (O1.out.alloc _))
  have B2 : Hid (Below w.heap.size w V1) := Lib.hid (by rw [← hV1]; exact B1.out.alloc B1.out.size _)
  have y0 : V1.cell? ⟨w1.heap.size, 0, none⟩ = some (.int .i64 K) := X1.out.cell 0
  have y1 : V1.cell? ⟨w1.heap.size, 1, none⟩ = some (.slice A1 Q.length c1) := X1.out.cell 1
  have y2 : V1.cell? ⟨w1.heap.size, 2, none⟩ = some (.string M) := X1.out.cell 2
  have y3 : V1.cell? ⟨w1.heap.size, 3, none⟩ = some (.int .i64 P) := X1.out.cell 3
  have r0 : V1.cell? ⟨w.heap.size, 0, none⟩ = some (.int .i64 0) := K2.out.cell 0
  have r1 : V1.cell? ⟨w.heap.size, 1, none⟩ = some (.int .i64 0) := K2.out.cell 1
  have r2 : V1.cell? ⟨w.heap.size, 2, none⟩ = some (.slice none 0 0) := K2.out.cell 2
  have r3 : V1.cell? ⟨w.heap.size, 3, none⟩ = some (.string .empty) := K2.out.cell 3
  have r4 : V1.cell? ⟨w.heap.size, 4, none⟩ = some (.int .i64 0) := K2.out.cell 4
  have f0 := K2.out.free 0
  have f1 := K2.out.free 1
  have f2 := K2.out.free 2
  have f3 := K2.out.free 3
  have f4 := K2.out.free 4
  have n1 : w.heap.size ≠ w1.heap.size := by omega
  have n2 : w1.heap.size ≠ w.heap.size := by omega
  rcases HB.out with ⟨rfl, hr⟩ | ⟨rfl, hr, hT⟩
  · obtain ⟨t1, t2⟩ := rfT_not hr
    have T1 := Lib.hid t1
    have T2 := Lib.hid t2
    clear t1 t2 hr
    go_wp2_with fail
    refine bodyPost_ret (v := .tuple #[.agg #[.int .i64 0, .int .i64 0, .slice none 0 0, .string .empty, .int .i64 0], .int .i64 0, .bool false]) (by simp [results, Tryd.results44, go_sem, r0, r1, r2, r3, r4]; try rfl) rfl ?_
    exact ⟨_, by rw [T1.out], by rw [T2.out]; exact Own.nil_ _ _, below_st5 B2.out (Nat.le_refl _) _ _ _ _ _⟩
  · cases hc : inR C 1 3
    · have hrf : rfOk zs = false := hr.symm.trans hc
      obtain ⟨t1, t2⟩ := rfT_not hrf
      have T1 := Lib.hid t1
      have T2 := Lib.hid t2
      clear t1 t2 hr hT hrf
      go_wp2_with (go_at_call 57; refine (l6In_any _ _ _ _).mono ?_; rintro e w' ⟨rfl, rfl⟩; rw [hc])
      refine bodyPost_ret (v := .tuple #[.agg #[.int .i64 0, .int .i64 0, .slice none 0 0, .string .empty, .int .i64 0], .int .i64 0, .bool false]) (by simp [results, Tryd.results44, go_sem, r0, r1, r2, r3, r4]; try rfl) rfl ?_
      exact ⟨_, by rw [T1.out], by rw [T2.out]; exact Own.nil_ _ _, below_st5 B2.out (Nat.le_refl _) _ _ _ _ _⟩
    · have hrf : rfOk zs = true := hr.symm.trans hc
      obtain ⟨t1, t2⟩ := hT hrf
      have T1 := Lib.hid t1
      have T2 := Lib.hid t2
      clear t1 t2 hr hT hrf
      go_wp2_with (go_at_call 57; refine (l6In_any _ _ _ _).mono ?_; rintro e w' ⟨rfl, rfl⟩; rw [hc])
      refine bodyPost_ret (v := .tuple #[.agg #[.int .i64 C, .int .i64 K, .slice A1 Q.length c1, .string M, .int .i64 P], .int .i64 N, .bool true]) (by simp [results, Tryd.results44, go_sem, r0, r1, r2, r3, r4]; try rfl) rfl ?_
      exact ⟨_, by rw [T1.out], by rw [T2.out]; exact (O2.out.st5 (Nat.lt_succ_self _)).more (Nat.le_succ _), below_st5 B2.out (Nat.le_refl _) _ _ _ _ _⟩

set_option maxRecDepth 100000 in
set_option maxHeartbeats 4000000 in
theorem spec_ReplyFrom_any (v : Value) (zs : List Int) (w : World) (hv : Ints w 0 v zs) : Calls Tryd.prog 38 #[v] w fun e w' => GaveEf w (efOk zs) zs e w' := by
  have HV := Lib.hid hv
  have hcases : ∃ C K Q M P N b, (∀ (u : Value) (W : World), Ints W 0 u zs → CfGave 63 u W C K Q M P N b) ∧ (b = false ∧ efOk zs = false ∨ b = true ∧ inR C 0 8 = efOk zs ∧
      (efOk zs = true → (∀ q, EfT (efOk zs) zs q = .tuple #[.int .i64 C, .agg #[.int .i64 K, q, .string M, .int .i64 P], .int .i64 N, .bool true]) ∧ fxQ (efOk zs) zs = Q)) := by
    cases h : cfOk zs
    · exact ⟨_, _, _, _, _, _, false, fun u W hu => l12From_no h u W hu, .inl ⟨rfl, by rw [efOk, h]; rfl⟩⟩
    · refine ⟨_, _, _, _, _, _, true, fun u W hu => l12From_ok h u W hu, .inr ⟨rfl, ?_, fun h2 => efT_yes h2⟩⟩
      rw [efOk, h, Bool.true_and]
  obtain ⟨C, K, Q, M, P, N, b, H, hb⟩ := hcases
  have HC := Lib.hid H
  have HB := Lib.hid hb
  clear hv H hb
  go_enter Tryd.func38, Tryd.ntmps38
  go_wp2_with fail
  refine (HC.out _ _ (HV.out.alloc _)).mono ?_
  rintro e w1 ⟨q, rfl, o1, b1⟩
  obtain ⟨A1, c1, rfl, _, _, _⟩ := o1.form
  have K1 := Lib.hid ((Blk.new w 25 #[.int .i64 0, .slice none 0 0, .string .empty, .int .i64 0]).kept b1)
  have B1 : Hid (Below w.heap.size w w1) := Lib.hid (((Below.refl _ _).alloc (Nat.le_refl _) _).trans (b1.mono (by simp)))
  have O1 := Lib.hid (o1.more (base' := w.heap.size + 1) (by simp))
  have z1 := K1.out.lt
  clear o1 b1
  obtain ⟨V1, hV1⟩ : ∃ V1, w1.alloc (.cells #[.int .i64 K, .slice A1 Q.length c1, .string M, .int .i64 P] 25) = V1 := ⟨_, rfl⟩
  have X1 : Hid (Blk V1 w1.heap.size 25 #[.int .i64 K, .slice A1 Q.length c1, .string M, .int .i64 P]) := Lib.hid (by rw [← hV1]; exact Blk.new _ _ _)
  have K2 : Hid (Blk V1 w.heap.size 25 #[.int .i64 0, .slice none 0 0, .string .empty, .int .i64 0]) := Lib.hid (by rw [← hV1]; exact (K1.out.alloc _))
  have O2 : Hid (Own V1 (w.heap.size + 1) (.slice A1 Q.length c1) Q) := Lib.hid (by rw [← hV1]; exact (O1.out.alloc _))
  have B2 : Hid (Below w.heap.size w V1) := Lib.hid (by rw [← hV1]; exact B1.out.alloc B1.out.size _)
  have y0 : V1.cell? ⟨w1.heap.size, 0, none⟩ = some (.int .i64 K) := X1.out.cell 0
  have y1 : V1.cell? ⟨w1.heap.size, 1, none⟩ = some (.slice A1 Q.length c1) := X1.out.cell 1
  have y2 : V1.cell? ⟨w1.heap.size, 2, none⟩ = some (.string M) := X1.out.cell 2
  have y3 : V1.cell? ⟨w1.heap.size, 3, none⟩ = some (.int .i64 P) := X1.out.cell 3
  have r0 : V1.cell? ⟨w.heap.size, 0, none⟩ = some (.int .i64 0) := K2.out.cell 0
  have r1 : V1.cell? ⟨w.heap.size, 1, none⟩ = some (.slice none 0 0) := K2.out.cell 1
  have r2 : V1.cell? ⟨w.heap.size, 2, none⟩ = some (.string .empty) := K2.out.cell 2
  have r3 : V1.cell? ⟨w.heap.size, 3, none⟩ = some (.int .i64 0) := K2.out.cell 3
  have f0 := K2.out.free 0
  have f1 := K2.out.free 1
  have f2 := K2.out.free 2
  have f3 := K2.out.free 3
  have n1 : w.heap.size ≠ w1.heap.size := by omega
  have n2 : w1.heap.size ≠ w.heap.size := by omega
  rcases HB.out with ⟨rfl, hr⟩ | ⟨rfl, hr, hT⟩
  · obtain ⟨t1, t2⟩ := efT_not hr
    have T1 := Lib.hid t1
    have T2 := Lib.hid t2
    clear t1 t2 hr
    go_wp2_with fail
    refine bodyPost_ret (v := .tuple #[.int .i64 0, .agg #[.int .i64 0, .slice none 0 0, .string .empty, .int .i64 0], .int .i64 0, .bool false]) (by simp [results, Tryd.results38, go_sem, r0, r1, r2, r3]; try rfl) rfl ?_
    exact ⟨_, by rw [T1.out], by rw [T2.out]; exact Own.nil_ _ _, below_st4 B2.out (Nat.le_refl _) _ _ _ _⟩
  · cases hc : inR C 0 8
    · have hrf : efOk zs = false := hr.symm.trans hc
      obtain ⟨t1, t2⟩ := efT_not hrf
      have T1 := Lib.hid t1
      have T2 := Lib.hid t2
      clear t1 t2 hr hT hrf
      go_wp2_with (go_at_call 57; refine (l6In_any _ _ _ _).mono ?_; rintro e w' ⟨rfl, rfl⟩; rw [hc])
      refine bodyPost_ret (v := .tuple #[.int .i64 0, .agg #[.int .i64 0, .slice none 0 0, .string .empty, .int .i64 0], .int .i64 0, .bool false]) (by simp [results, Tryd.results38, go_sem, r0, r1, r2, r3]; try rfl) rfl ?_
      exact ⟨_, by rw [T1.out], by rw [T2.out]; exact Own.nil_ _ _, below_st4 B2.out (Nat.le_refl _) _ _ _ _⟩
    · have hrf : efOk zs = true := hr.symm.trans hc
      obtain ⟨t1, t2⟩ := hT hrf
      have T1 := Lib.hid t1
      have T2 := Lib.hid t2
      clear t1 t2 hr hT hrf
      go_wp2_with (go_at_call 57; refine (l6In_any _ _ _ _).mono ?_; rintro e w' ⟨rfl, rfl⟩; rw [hc])
      go_region
      go_wp2_with fail
      refine bodyPost_ret (v := .tuple #[.int .i64 C, .agg #[.int .i64 K, .slice A1 Q.length c1, .string M, .int .i64 P], .int .i64 N, .bool true]) (by simp [results, Tryd.results38, go_sem, r0, r1, r2, r3]; try rfl) rfl ?_
      exact ⟨_, by rw [T1.out], by rw [T2.out]; exact (O2.out.drew.st4 (Nat.lt_succ_self _)).more (Nat.le_succ _), below_st4 B2.out.drew (Nat.le_refl _) _ _ _ _⟩
end Go.Proofs.YtahlgdehfjjoeaaDoor

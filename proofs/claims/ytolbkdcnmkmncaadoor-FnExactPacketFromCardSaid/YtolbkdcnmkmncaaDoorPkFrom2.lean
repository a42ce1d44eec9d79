/-
  The reference's PacketFrom where it ends ahead of the address. Conditions: the slice reads as a list of integers.
-/
import Derived.Test.YtolbkdcnmkmncaaDoorPkFrom
import Derived.Test.YtolbkdcnmkmncaaDoorRf2
namespace Go.Proofs.YtolbkdcnmkmncaaDoor
open Go.RowKit

set_option maxRecDepth 100000 in
set_option maxHeartbeats 2000000 in
/-- The ways that end ahead of the address. -/
theorem spec_PacketFrom_not (v : Value) (zs : List Int) (w : World) (hv : Ints w 0 v zs) (h : validL zs = false ∨ zs.length < 3 ∨ 3 ≤ zs.length ∧ (zs.getD 0 0 ≠ 0 ∨ zs.getD 0 0 = 0 ∧ zs.getD 1 0 ≠ 0)) (hE : ppOk zs = false) :
    Calls Tryd.prog 38 #[v] w fun e w' => GavePp w (ppOk zs) zs e w' := by
  have HV := Lib.hid hv
  obtain ⟨t1, t2, t3⟩ := ppT_not hE
  have T1 := Lib.hid t1
  have T2 := Lib.hid t2
  have T3 := Lib.hid t3
  obtain ⟨A, c, rfl, hc, hm, hA⟩ := hv.open_
  obtain ⟨V, hV⟩ : ∃ V, w.alloc (.cells #[.int .i64 0, .int .i64 0, .slice none 0 0, .string ⟨#[]⟩, .int .i64 0, .slice none 0 0] 41) = V := ⟨_, rfl⟩
  have K : Hid (Blk V w.heap.size 41 #[.int .i64 0, .int .i64 0, .slice none 0 0, .string .empty, .int .i64 0, .slice none 0 0]) := Lib.hid (by rw [← hV]; exact Blk.new _ _ _)
  have B : Hid (Below w.heap.size w V) := Lib.hid (by rw [← hV]; exact (Below.refl _ _).alloc (Nat.le_refl _) _)
  have I : Hid (Ints V 0 (.slice A zs.length c) zs) := Lib.hid (by rw [← hV]; exact HV.out.alloc _)
  have r0 : V.cell? ⟨w.heap.size, 0, none⟩ = some (.int .i64 0) := K.out.cell 0
  have r1 : V.cell? ⟨w.heap.size, 1, none⟩ = some (.int .i64 0) := K.out.cell 1
  have r2 : V.cell? ⟨w.heap.size, 2, none⟩ = some (.slice none 0 0) := K.out.cell 2
  have r3 : V.cell? ⟨w.heap.size, 3, none⟩ = some (.string .empty) := K.out.cell 3
  have r4 : V.cell? ⟨w.heap.size, 4, none⟩ = some (.int .i64 0) := K.out.cell 4
  have r5 : V.cell? ⟨w.heap.size, 5, none⟩ = some (.slice none 0 0) := K.out.cell 5
  have f0 := K.out.free 0
  have f1 := K.out.free 1
  have f2 := K.out.free 2
  have f3 := K.out.free 3
  have f4 := K.out.free 4
  have f5 := K.out.free 5
  clear hv hE t1 t2 t3
  cases hvl : validL zs
  · clear h hA
    go_enter Tryd.func38, Tryd.ntmps38
    go_wp2_with (go_at_call 75; refine (spec_BytesValid_any _ zs _ I.out).mono ?_; rintro e w' ⟨rfl, rfl⟩; rw [hvl])
    refine bodyPost_ret (v := .tuple #[.agg #[.int .i64 0, .int .i64 0, .slice none 0 0, .string .empty, .int .i64 0, .slice none 0 0], .bool false]) (by simp [results, Tryd.results38, go_sem, r0, r1, r2, r3, r4, r5]; try rfl) rfl ?_
    exact ⟨_, _, by rw [T1.out], by rw [T2.out]; exact Own.nil_ _ _, by rw [T3.out]; exact Own.nil_ _ _, .inl rfl, below_st6 B.out (Nat.le_refl _) _ _ _ _ _ _⟩
  · rcases h with h | h | ⟨h, h'⟩
    · rw [hvl] at h; cases h
    · have h' : (zs.length : Int) < 3 := by omega
      clear h hA
      go_enter Tryd.func38, Tryd.ntmps38
      go_wp2_with (go_at_call 75; refine (spec_BytesValid_any _ zs _ I.out).mono ?_; rintro e w' ⟨rfl, rfl⟩; rw [hvl])
      refine bodyPost_ret (v := .tuple #[.agg #[.int .i64 0, .int .i64 0, .slice none 0 0, .string .empty, .int .i64 0, .slice none 0 0], .bool false]) (by simp [results, Tryd.results38, go_sem, r0, r1, r2, r3, r4, r5]; try rfl) rfl ?_
      exact ⟨_, _, by rw [T1.out], by rw [T2.out]; exact Own.nil_ _ _, by rw [T3.out]; exact Own.nil_ _ _, .inl rfl, below_st6 B.out (Nat.le_refl _) _ _ _ _ _ _⟩
    · obtain ⟨b, o, rfl, _, hb, hs⟩ := hA.resolve_left (fun h0 => by rw [h0] at h; simp at h)
      have hsV : Seg V 3 b o (iv zs) := by rw [← hV]; exact hs.alloc _
      have c0 := hsV.int_at (j := 0) (by omega)
      have c1 := hsV.int_at (j := 1) (by omega)
      rw [Nat.add_zero] at c0
      have h3 : ¬ (zs.length : Int) < 3 := by omega
      have hp0 : (0 : Int) < (zs.length : Int) := by omega
      have hp1 : (1 : Int) < (zs.length : Int) := by omega
      obtain ⟨x, hx⟩ : ∃ x, zs.getD 0 0 = x := ⟨_, rfl⟩
      obtain ⟨y, hy⟩ : ∃ y, zs.getD 1 0 = y := ⟨_, rfl⟩
      rw [hx] at c0 h'
      rw [hy] at c1 h'
      rcases h' with h5 | ⟨rfl, h0⟩
      · have h5' : (x != 0) = true := by simpa using h5
        clear h hs hsV hx hy h5 hA
        go_enter Tryd.func38, Tryd.ntmps38
        go_wp2_with (go_at_call 75; refine (spec_BytesValid_any _ zs _ I.out).mono ?_; rintro e w' ⟨rfl, rfl⟩; rw [hvl])
        refine bodyPost_ret (v := .tuple #[.agg #[.int .i64 0, .int .i64 0, .slice none 0 0, .string .empty, .int .i64 0, .slice none 0 0], .bool false]) (by simp [results, Tryd.results38, go_sem, r0, r1, r2, r3, r4, r5]; try rfl) rfl ?_
        exact ⟨_, _, by rw [T1.out], by rw [T2.out]; exact Own.nil_ _ _, by rw [T3.out]; exact Own.nil_ _ _, .inl rfl, below_st6 B.out (Nat.le_refl _) _ _ _ _ _ _⟩
      · have h0' : (y != 0) = true := by simpa using h0
        clear h hs hsV hx hy h0 hA
        go_enter Tryd.func38, Tryd.ntmps38
        go_wp2_with (go_at_call 75; refine (spec_BytesValid_any _ zs _ I.out).mono ?_; rintro e w' ⟨rfl, rfl⟩; rw [hvl])
        refine bodyPost_ret (v := .tuple #[.agg #[.int .i64 0, .int .i64 0, .slice none 0 0, .string .empty, .int .i64 0, .slice none 0 0], .bool false]) (by simp [results, Tryd.results38, go_sem, r0, r1, r2, r3, r4, r5]; try rfl) rfl ?_
        exact ⟨_, _, by rw [T1.out], by rw [T2.out]; exact Own.nil_ _ _, by rw [T3.out]; exact Own.nil_ _ _, .inl rfl, below_st6 B.out (Nat.le_refl _) _ _ _ _ _ _⟩
end Go.Proofs.YtolbkdcnmkmncaaDoor

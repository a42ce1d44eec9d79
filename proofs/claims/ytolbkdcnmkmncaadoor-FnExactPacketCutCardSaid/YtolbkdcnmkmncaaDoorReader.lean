/-
  The program's reader of bytes: newReader, take: what they return is a plain function of the bytes, the place and whether it has failed. Conditions: a read asks for at most 1000 bytes.
-/
import Derived.Test.YtolbkdcnmkmncaaDoorRs
import Derived.Test.YtolbkdcnmkmncaaDoorAppend
import Derived.Laws.MakeOwn
import Derived.IntWalk
namespace Go.Proofs.YtolbkdcnmkmncaaDoor
open Go.RowKit

/-- Block g is a reader of the bytes zs (slice v), at place s.1, failed or not. -/
def Rdr (w : World) (g : Nat) (v : Value) (zs : List Int) (s : Nat × Bool) : Prop :=
  w.heap[g]? = some (.cells #[v, .int .i64 (s.1 : Int), .bool s.2] 90 (0, 0)) ∧ Ints w 0 v zs ∧ RFit zs s
theorem Rdr.lt {w : World} {g : Nat} {v : Value} {zs : List Int} {s : Nat × Bool} (h : Rdr w g v zs s) : g < w.heap.size := (Array.getElem?_eq_some_iff.1 h.1).1
theorem Rdr.fit {w : World} {g : Nat} {v : Value} {zs : List Int} {s : Nat × Bool} (h : Rdr w g v zs s) : RFit zs s := h.2.2
theorem Rdr.c0 {w : World} {g : Nat} {v : Value} {zs : List Int} {s : Nat × Bool} (h : Rdr w g v zs s) : w.cell? ⟨g, 0, none⟩ = some v := by rw [cell_of_row w g 0 _ _ _ h.1]; rfl
theorem Rdr.c1 {w : World} {g : Nat} {v : Value} {zs : List Int} {s : Nat × Bool} (h : Rdr w g v zs s) : w.cell? ⟨g, 1, none⟩ = some (.int .i64 (s.1 : Int)) := by rw [cell_of_row w g 1 _ _ _ h.1]; rfl
theorem Rdr.c2 {w : World} {g : Nat} {v : Value} {zs : List Int} {s : Nat × Bool} (h : Rdr w g v zs s) : w.cell? ⟨g, 2, none⟩ = some (.bool s.2) := by rw [cell_of_row w g 2 _ _ _ h.1]; rfl
theorem Rdr.free {w : World} {g : Nat} {v : Value} {zs : List Int} {s : Nat × Bool} (h : Rdr w g v zs s) (j : Nat) : w.frozen? ⟨g, j, none⟩ = false := frozen_of_row w g j _ _ h.1
theorem Rdr.below {w w' : World} {g : Nat} {v : Value} {zs : List Int} {s : Nat × Bool} (h : Rdr w g v zs s) (hb : Below w.heap.size w w') : Rdr w' g v zs s :=
  ⟨(hb.block g h.lt).trans h.1, h.2.1.below hb, h.2.2⟩
theorem Rdr.drewN {w : World} {g : Nat} {v : Value} {zs : List Int} {s : Nat × Bool} (h : Rdr w g v zs s) (n : Nat) : Rdr (w.drewN n) g v zs s := h
theorem Rdr.alloc {w : World} {g : Nat} {v : Value} {zs : List Int} {s : Nat × Bool} (h : Rdr w g v zs s) (o : Obj) : Rdr (w.alloc o) g v zs s := h.below ((Below.refl _ _).alloc (Nat.le_refl _) o)
theorem Rdr.own {w w' : World} {g base : Nat} {v u : Value} {zs ys : List Int} {s : Nat × Bool} (h : Rdr w g v zs s) (ho : Own w base u ys) (hg : w.grownBy w' (some g)) : Own w' base u ys := ho.grown hg h.1 (by decide)
theorem Rdr.ints {w w' : World} {g lo : Nat} {v u : Value} {zs ys : List Int} {s : Nat × Bool} (h : Rdr w g v zs s) (ho : Ints w lo u ys) (hg : w.grownBy w' (some g)) : Ints w' lo u ys := ho.grown hg h.1 (by decide)
/-- The reader's two own cells are stored. -/
theorem Rdr.store1 {w : World} {g : Nat} {v : Value} {zs : List Int} {s : Nat × Bool} (h : Rdr w g v zs s) (p : Nat) (hf : RFit zs (p, s.2)) : Rdr (w.setCell ⟨g, 1, none⟩ (.int .i64 (p : Int))) g v zs (p, s.2) := by
  have hG : w.grownBy (w.setCell ⟨g, 1, none⟩ (.int .i64 (p : Int))) (some g) := only_setCell (p := ⟨g, 1, none⟩) (World.grownBy.refl w _) (.inl rfl) _
  exact ⟨heap_setCell_same w g 1 _ _ _ h.1, h.ints h.2.1 hG, hf⟩
theorem Rdr.store2 {w : World} {g : Nat} {v : Value} {zs : List Int} {s : Nat × Bool} (h : Rdr w g v zs s) : Rdr (w.setCell ⟨g, 2, none⟩ (.bool true)) g v zs (s.1, true) := by
  have hG : w.grownBy (w.setCell ⟨g, 2, none⟩ (.bool true)) (some g) := only_setCell (p := ⟨g, 2, none⟩) (World.grownBy.refl w _) (.inl rfl) _
  exact ⟨heap_setCell_same w g 2 _ _ _ h.1, h.ints h.2.1 hG, h.2.2.1, fun h => by cases h⟩

theorem newReader_any (v : Value) (zs : List Int) (w : World) (hv : Ints w 0 v zs) :
    Calls Tryd.prog 77 #[v] w fun e w' => e = .returned (.pointer (some ⟨w.heap.size, 0, none⟩)) ∧ Rdr w' w.heap.size v zs (rStart zs) ∧ Below w.heap.size w w' := by
  have HV := Lib.hid hv
  obtain ⟨A, c, rfl, hc, hm, _⟩ := hv.open_
  clear hv
  go_enter Tryd.func77, Tryd.ntmps77
  go_wp2_with fail
  refine (impl_BytesValid_any _ zs _ HV.out).mono ?_
  rintro e w' ⟨rfl, rfl⟩
  go_wp2_with fail
  go_ret
  exact ⟨rfl, ⟨heap_alloc_new w _, HV.out.alloc _, RFit.start zs⟩, (Below.refl _ _).alloc (Nat.le_refl _) _⟩

theorem made_zero (n : Nat) : madeCells #[Value.int .i64 0] n = (iv (List.replicate n 0)).toArray := by
  apply Array.toList_inj.1
  rw [toList_madeCells_one]
  simp [iv]
/-- 'make([]int, n)' -/
theorem mk_ints (n : Nat) (hn : n ≤ 1099511627776) (u : World) : (Instr.makeSlice 23 (.int .i64 (n : Int)) (.int .i64 (n : Int))).run Tryd.prog u = .ok (.slice (some ⟨u.heap.size, 0, none⟩) n n) (u.alloc (.cells (iv (List.replicate n 0)).toArray 3)) := by
  obtain ⟨i0, hi, hz0, hz1, hz2⟩ := info_parts int_info
  have h := run_make (P := Tryd.prog) u 23 3 i0 (.int .i64 0) Tryd.underlying23 hi hz0 .i64 .i64 (n : Int) (n : Int) (by omega) (Int.le_refl _) (by rw [hz2]; omega) (by omega)
  simp only [Int.toNat_natCast, hz1, Nat.mul_one] at h
  rw [← made_zero]
  exact h

/-- What a step of the reader leaves. -/
def Took (w : World) (g : Nat) (v : Value) (zs : List Int) (s : Nat × Bool) (w' : World) : Prop := Rdr w' g v zs s ∧ w.grownBy w' (some g)

set_option maxHeartbeats 1000000 in
theorem take_bad (g : Nat) (v : Value) (zs : List Int) (p : Nat) (n : Nat) (w : World) (hr : Rdr w g v zs (p, true)) (hn : n ≤ 1000) :
    Calls Tryd.prog 81 #[.pointer (some ⟨g, 0, none⟩), .int .i64 (n : Int)] w fun e w' => ∃ u, e = .returned u ∧ Own w' w.heap.size u (List.replicate n 0) ∧ Took w g v zs (p, true) w' := by
  have hmk := mk_ints n (by omega)
  have c2 := hr.c2
  have f2 := hr.free 2
  have HR := Lib.hid hr
  have hg := hr.lt
  clear hr
  go_enter Tryd.func81, Tryd.ntmps81
  go_wp2
  go_quiet (fail)
  go_wp2
  go_ret
  have hsz : ((w.drewN nq).setCell ⟨g, 2, none⟩ (.bool true)).heap.size = w.heap.size := by simp [World.setCell, World.drewN]
  have hO := Own.lit ((w.drewN nq).setCell ⟨g, 2, none⟩ (.bool true)) (List.replicate n 0) w.heap.size (by rw [hsz]; exact Nat.le_refl _) (by simp; omega)
  rw [List.length_replicate, hsz] at hO
  have hG : w.grownBy ((w.drewN nq).setCell ⟨g, 2, none⟩ (.bool true)) (some g) := only_setCell (p := ⟨g, 2, none⟩) (only_drewN (World.grownBy.refl w _) nq) (.inl rfl) _
  exact ⟨_, rfl, hO, ((HR.out.drewN nq).store2).alloc _, only_alloc hG _⟩
set_option maxHeartbeats 1000000 in
theorem take_long (g : Nat) (v : Value) (zs : List Int) (p : Nat) (n : Nat) (w : World) (hr : Rdr w g v zs (p, false)) (hn : n ≤ 1000) (hlong : zs.length < p + n) :
    Calls Tryd.prog 81 #[.pointer (some ⟨g, 0, none⟩), .int .i64 (n : Int)] w fun e w' => ∃ u, e = .returned u ∧ Own w' w.heap.size u (List.replicate n 0) ∧ Took w g v zs (p, true) w' := by
  have hmk := mk_ints n (by omega)
  obtain ⟨A, c, rfl, hc, hm, _⟩ := hr.2.1.open_
  have c0 := hr.c0
  have c1 := hr.c1
  have c2 := hr.c2
  have f2 := hr.free 2
  have hp := hr.fit.1
  simp only at hp c1 c2
  have HR := Lib.hid hr
  have hg := hr.lt
  have e1 : IntKind.i64.wrap ((zs.length : Int) - (p : Int)) = (zs.length : Int) - (p : Int) := IntWalk.i64_in _ (by omega)
  have e2 : (zs.length : Int) - (p : Int) < (n : Int) := by omega
  clear hr
  go_enter Tryd.func81, Tryd.ntmps81
  go_wp2
  go_quiet (fail)
  go_wp2
  go_ret
  have hsz : ((w.drewN nq).setCell ⟨g, 2, none⟩ (.bool true)).heap.size = w.heap.size := by simp [World.setCell, World.drewN]
  have hO := Own.lit ((w.drewN nq).setCell ⟨g, 2, none⟩ (.bool true)) (List.replicate n 0) w.heap.size (by rw [hsz]; exact Nat.le_refl _) (by simp; omega)
  rw [List.length_replicate, hsz] at hO
  have hG : w.grownBy ((w.drewN nq).setCell ⟨g, 2, none⟩ (.bool true)) (some g) := only_setCell (p := ⟨g, 2, none⟩) (only_drewN (World.grownBy.refl w _) nq) (.inl rfl) _
  exact ⟨_, rfl, hO, ((HR.out.drewN nq).store2).alloc _, only_alloc hG _⟩

set_option maxRecDepth 100000 in
set_option maxHeartbeats 1000000 in
theorem take_good (g : Nat) (v : Value) (zs : List Int) (p : Nat) (n : Nat) (w : World) (hr : Rdr w g v zs (p, false)) (hn : n ≤ 1000) (hfit : p + n ≤ zs.length) :
    Calls Tryd.prog 81 #[.pointer (some ⟨g, 0, none⟩), .int .i64 (n : Int)] w fun e w' => ∃ u, e = .returned u ∧ Own w' w.heap.size u ((zs.drop p).take n) ∧ Took w g v zs (p + n, false) w' := by
  obtain ⟨A, c, rfl, hc, hm, hA⟩ := hr.2.1.open_
  have c0 := hr.c0
  have c1 := hr.c1
  have c2 := hr.c2
  have f1 := hr.free 1
  simp only at c1 c2
  have HF : Hid (RFit zs (p + n, false)) := Lib.hid ⟨hfit, hr.fit.2⟩
  have HR := Lib.hid hr
  have hg := hr.lt
  have e1 : IntKind.i64.wrap ((zs.length : Int) - (p : Int)) = (zs.length : Int) - (p : Int) := IntWalk.i64_in _ (by omega)
  have e2 : decide ((zs.length : Int) - (p : Int) < (n : Int)) = false := by simp; omega
  clear hr
  go_enter Tryd.func81, Tryd.ntmps81
  go_wp2
  go_quiet (fail)
  go_wp2
  have q0 : (p : Int) + (n : Int) ≤ (zs.length : Int) := by omega
  have q1 : (p : Int) + (n : Int) ≤ (c : Int) := by omega
  have q2 : (p : Int) ≤ (p : Int) + (n : Int) := by omega
  have e3 : IntKind.i64.wrap ((p : Int) + (n : Int) - (n : Int)) = (p : Int) := by rw [Int.add_sub_cancel]; exact IntWalk.i64_in _ (by omega)
  have e4 : IntKind.i64.wrap (p : Int) = (p : Int) := IntWalk.i64_in _ (by omega)
  have R2 : Rdr (((w.drewN nq).setCell ⟨g, 1, none⟩ (.int .i64 ((p : Int) + (n : Int)))).drew) g (.slice A zs.length c) zs (p + n, false) := by
    have h := (HR.out.drewN nq).store1 (p + n) HF.out
    rw [Int.natCast_add] at h
    exact h
  have hG : w.grownBy (((w.drewN nq).setCell ⟨g, 1, none⟩ (.int .i64 ((p : Int) + (n : Int)))).drew) (some g) := only_drew (only_setCell (p := ⟨g, 1, none⟩) (only_drewN (World.grownBy.refl w _) nq) (.inl rfl) _)
  have hsz : (((w.drewN nq).setCell ⟨g, 1, none⟩ (.int .i64 ((p : Int) + (n : Int)))).drew).heap.size = w.heap.size := by simp [World.setCell, World.drewN]
  refine region_tail 15 (by kernel_rfl) (by kernel_rfl) ?_
  simp only [List.take_succ_cons, List.take_zero, List.drop_succ_cons, List.drop_zero]
  obtain ⟨W2, hW2⟩ : ∃ W2, (((w.drewN nq).setCell ⟨g, 1, none⟩ (.int .i64 ((p : Int) + (n : Int)))).drew) = W2 := ⟨_, rfl⟩
  rw [hW2] at R2 hG hsz ⊢
  have d0 := R2.c0
  have d1 := R2.c1
  simp only [Int.natCast_add] at d1
  have HR2 := Lib.hid R2
  have HG := Lib.hid hG
  have HSZ := Lib.hid hsz
  clear hW2 R2 hG hsz c0 c1 c2 f1 e1 e2
  have q3 : (p : Int) + (n : Int) - (n : Int) = (p : Int) := by omega
  repeat still_step
  refine wpStill_nil ?_
  have hI := HR2.out.2.1
  go_wp2_with fail
  · refine (Clone_any _ ((zs.drop p).take n) _ (Ints.cutEnd zs (by omega)) (by simp; omega)).mono ?_
    rintro e w3 ⟨u, rfl, o3, b3⟩
    rw [HSZ.out] at o3
    go_wp2_with fail
    go_ret
    exact ⟨_, rfl, o3, HR2.out.below b3, only_below HG.out (by rw [← HSZ.out]; exact b3)⟩
  · refine (Clone_any _ ((zs.drop p).take n) _ (hI.cutMap hfit) (by simp; omega)).mono ?_
    rintro e w3 ⟨u, rfl, o3, b3⟩
    rw [HSZ.out] at o3
    go_wp2_with fail
    go_ret
    exact ⟨_, rfl, o3, HR2.out.below b3, only_below HG.out (by rw [← HSZ.out]; exact b3)⟩

/-- 'r.take(n)' -/
theorem take_any (g : Nat) (v : Value) (zs : List Int) (s : Nat × Bool) (n : Nat) (w : World) (hr : Rdr w g v zs s) (hn : n ≤ 1000) :
    Calls Tryd.prog 81 #[.pointer (some ⟨g, 0, none⟩), .int .i64 (n : Int)] w fun e w' => ∃ u, e = .returned u ∧ Own w' w.heap.size u (rGot zs s n) ∧ Took w g v zs (rNext zs s n) w' := by
  obtain ⟨p, b⟩ := s
  cases b
  · by_cases h : p + n ≤ zs.length
    · rw [rNext_good h, rGot_good h]
      exact take_good g v zs p n w hr hn h
    · rw [rNext_long (by omega), rGot_long (by omega)]
      exact take_long g v zs p n w hr hn (by omega)
  · rw [rNext_bad, rGot_bad]
    exact take_bad g v zs p n w hr hn
end Go.Proofs.YtolbkdcnmkmncaaDoor

/-
  The text of an address: quadText, hostText, addressText, AddressText of the program, l2Quad, l3Host, AddressText of the reference. Conditions: the address is valid where its text is not asked for validity; the table of powers of ten reads as it was laid.
-/
import Derived.Test.YtpcflkdeoafpeaaDoorTab
import Derived.Test.YtpcflkdeoafpeaaDoorAdOk
import Derived.Test.YtpcflkdeoafpeaaDoorOwnStr
import Derived.Test.YtpcflkdeoafpeaaDoorAdLaws
import Derived.Lib.QuietBelow
import Derived.BigQuiet
namespace Go.Proofs.YtpcflkdeoafpeaaDoor
open Go.RowKit Go.Sort

def dotB : ByteArray := ⟨#[46]⟩
def colB : ByteArray := ⟨#[58]⟩
theorem dotB_size : dotB.size = 1 := rfl
theorem colB_size : colB.size = 1 := rfl
/-- Four bytes as a text. -/
def quadB (qs : List Int) : ByteArray :=
  decB (qs.getD 0 0).toNat ++ dotB ++ decB (qs.getD 1 0).toNat ++ dotB ++ decB (qs.getD 2 0).toNat ++ dotB ++ decB (qs.getD 3 0).toNat
def hostB (k : Int) (qs : List Int) (nm : ByteArray) : ByteArray := if k = 1 then quadB qs else nm
/-- The text of a valid address. -/
def adT (k : Int) (qs : List Int) (nm : ByteArray) (p : Int) : ByteArray := hostB k qs nm ++ colB ++ decB p.toNat
def adX (k : Int) (qs : List Int) (nm : ByteArray) (p : Int) : ByteArray := if adOk k qs nm p = true then adT k qs nm p else ⟨#[]⟩
theorem adX_ok {k : Int} {qs : List Int} {nm : ByteArray} {p : Int} (h : adOk k qs nm p = true) : adX k qs nm p = adT k qs nm p := if_pos h
theorem adX_not {k : Int} {qs : List Int} {nm : ByteArray} {p : Int} (h : adOk k qs nm p = false) : adX k qs nm p = ⟨#[]⟩ := by simp [adX, h]
theorem quad_at {qs : List Int} (h : quadOk qs = true) (i : Nat) : ∃ n : Nat, qs.getD i 0 = n ∧ n ≤ 255 ∧ (qs.getD i 0).toNat = n := by
  have hb := (quadOk_parts h).2
  have h2 : 0 ≤ qs.getD i 0 ∧ qs.getD i 0 ≤ 255 := by
    rw [List.getD_eq_getElem?_getD]
    cases e : qs[i]? with
    | none => simp
    | some x => simpa using hb x (List.mem_of_getElem? e)
  exact ⟨(qs.getD i 0).toNat, by omega, by omega, rfl⟩
theorem quadB_size {qs : List Int} (h : quadOk qs = true) : (quadB qs).size ≤ 83 := by
  have hs : ∀ i, (decB (qs.getD i 0).toNat).size ≤ 20 := fun i => by
    obtain ⟨n, _, h2, h3⟩ := quad_at h i
    rw [h3]
    exact decB_size_le (by omega)
  have h0 := hs 0
  have h1 := hs 1
  have h2 := hs 2
  have h3 := hs 3
  unfold quadB
  simp only [ByteArray.size_append, dotB_size]
  omega
theorem hostB_size {k : Int} {qs : List Int} {nm : ByteArray} {p : Int} (h : adOk k qs nm p = true) : (hostB k qs nm).size ≤ 83 := by
  unfold hostB
  split
  · exact quadB_size (adOk_quad h ‹_›).2.1
  · have := (adOk_sizes h).2
    omega
theorem adT_size {k : Int} {qs : List Int} {nm : ByteArray} {p : Int} (h : adOk k qs nm p = true) : (adT k qs nm p).size ≤ 104 := by
  have h1 := hostB_size h
  have h2 := adOk_port h
  have h3 := decB_size_le (n := p.toNat) (by omega)
  unfold adT
  simp only [ByteArray.size_append, colB_size]
  omega
/-- strings.Join's words for four numerals. -/
theorem quad_join (a b c d : ByteArray) : (⟨(Lib.join ([a, b, c, d].map (·.data.toList)) dotB.data.toList).toArray⟩ : ByteArray) = a ++ dotB ++ b ++ dotB ++ c ++ dotB ++ d := by
  apply ByteArray.ext
  rw [List.map_cons, Lib.join_cons]
  simp [Lib.joinTail, dotB]

set_option maxRecDepth 100000 in
set_option maxHeartbeats 2000000 in
theorem l2Quad_any (q : Value) (qs : List Int) (w : World) (hq : Ints w 0 q qs) (h : quadOk qs = true) :
    Calls Tryd.prog 66 #[q] w fun e w' => e = .returned (.string (quadB qs)) ∧ Below w.heap.size w w' := by
  have h4 := (quadOk_parts h).1
  obtain ⟨a0, e0, l0, t0_⟩ := quad_at h 0
  obtain ⟨a1, e1, l1, t1_⟩ := quad_at h 1
  obtain ⟨a2, e2, l2, t2_⟩ := quad_at h 2
  obtain ⟨a3, e3, l3, t3_⟩ := quad_at h 3
  obtain ⟨A, c, rfl, hc, hm, hA⟩ := hq.open_
  obtain ⟨b, o, rfl, _, hb, hs⟩ := hA.resolve_left (fun h => by rw [h] at h4; simp at h4)
  have c0 := hs.int_at (j := 0) (by omega)
  have c1 := hs.int_at (j := 1) (by omega)
  have c2 := hs.int_at (j := 2) (by omega)
  have c3 := hs.int_at (j := 3) (by omega)
  rw [e0, Nat.add_zero] at c0
  rw [e1] at c1
  rw [e2] at c2
  rw [e3] at c3
  have E : Hid (quadB qs = decB a0 ++ dotB ++ decB a1 ++ dotB ++ decB a2 ++ dotB ++ decB a3) := Lib.hid (by unfold quadB; rw [t0_, t1_, t2_, t3_])
  obtain ⟨d0, hd0⟩ : ∃ d, decB a0 = d := ⟨_, rfl⟩
  obtain ⟨d1, hd1⟩ : ∃ d, decB a1 = d := ⟨_, rfl⟩
  obtain ⟨d2, hd2⟩ : ∃ d, decB a2 = d := ⟨_, rfl⟩
  obtain ⟨d3, hd3⟩ : ∃ d, decB a3 = d := ⟨_, rfl⟩
  have s0 : d0.size ≤ 20 := by rw [← hd0]; exact decB_size_le (by omega)
  have s1 : d1.size ≤ 20 := by rw [← hd1]; exact decB_size_le (by omega)
  have s2 : d2.size ≤ 20 := by rw [← hd2]; exact decB_size_le (by omega)
  have s3 : d3.size ≤ 20 := by rw [← hd3]; exact decB_size_le (by omega)
  have q0 : ∀ d os, Calls Tryd.prog 57 #[.int .i64 (a0 : Int)] (grow (redrawn w d) os) fun e w'' => e = .returned (.string d0) ∧ ∃ p : Regrown, w'' = grow (redrawn w p.d) p.os := fun d os => Calls.regrown_of (by rw [← hd0]; exact l6Dec_any a0 _ (by omega))
  have q1 : ∀ d os, Calls Tryd.prog 57 #[.int .i64 (a1 : Int)] (grow (redrawn w d) os) fun e w'' => e = .returned (.string d1) ∧ ∃ p : Regrown, w'' = grow (redrawn w p.d) p.os := fun d os => Calls.regrown_of (by rw [← hd1]; exact l6Dec_any a1 _ (by omega))
  have q2 : ∀ d os, Calls Tryd.prog 57 #[.int .i64 (a2 : Int)] (grow (redrawn w d) os) fun e w'' => e = .returned (.string d2) ∧ ∃ p : Regrown, w'' = grow (redrawn w p.d) p.os := fun d os => Calls.regrown_of (by rw [← hd2]; exact l6Dec_any a2 _ (by omega))
  have q3 : ∀ d os, Calls Tryd.prog 57 #[.int .i64 (a3 : Int)] (grow (redrawn w d) os) fun e w'' => e = .returned (.string d3) ∧ ∃ p : Regrown, w'' = grow (redrawn w p.d) p.os := fun d os => Calls.regrown_of (by rw [← hd3]; exact l6Dec_any a3 _ (by omega))
  rw [hd0, hd1, hd2, hd3] at E
  have k0 := cell_regrown c0
  have k1 := cell_regrown c1
  have k2 := cell_regrown c2
  have k3 := cell_regrown c3
  have Q0 := Lib.hid q0
  have Q1 := Lib.hid q1
  have Q2 := Lib.hid q2
  have Q3 := Lib.hid q3
  have g0 : (0 : Int) < (qs.length : Int) := by omega
  have g1 : (1 : Int) < (qs.length : Int) := by omega
  have g2 : (2 : Int) < (qs.length : Int) := by omega
  have g3 : (3 : Int) < (qs.length : Int) := by omega
  obtain ⟨z0, hz0⟩ : ∃ z, d0.size = z := ⟨_, rfl⟩
  rw [hz0] at s0
  obtain ⟨z1, hz1⟩ : ∃ z, d1.size = z := ⟨_, rfl⟩
  rw [hz1] at s1
  obtain ⟨z2, hz2⟩ : ∃ z, d2.size = z := ⟨_, rfl⟩
  rw [hz2] at s2
  obtain ⟨z3, hz3⟩ : ∃ z, d3.size = z := ⟨_, rfl⟩
  rw [hz3] at s3
  have n0 : (9223372036854775807 < z0 + 1) = False := eq_false (by omega)
  have n1 : (9223372036854775807 < z0 + 1 + z1) = False := eq_false (by omega)
  have n2 : (9223372036854775807 < z0 + 1 + z1 + 1) = False := eq_false (by omega)
  have n3 : (9223372036854775807 < z0 + 1 + z1 + 1 + z2) = False := eq_false (by omega)
  have n4 : (9223372036854775807 < z0 + 1 + z1 + 1 + z2 + 1) = False := eq_false (by omega)
  have n5 : (9223372036854775807 < z0 + 1 + z1 + 1 + z2 + 1 + z3) = False := eq_false (by omega)
  clear s0 s1 s2 s3 l0 l1 l2 l3
  clear hs hA hd0 hd1 hd2 hd3 e0 e1 e2 e3 t0_ t1_ t2_ t3_ q0 q1 q2 q3 hq h
  go_enter Tryd.func66, Tryd.ntmps66
  go_wp2_with fail
  refine wp_region_quiet_below (by kernel_rfl) (by kernel_rfl) ?_
  repeat (quiet_step (first | with_reducible exact Q0.out _ _ | with_reducible exact Q1.out _ _ | with_reducible exact Q2.out _ _ | with_reducible exact Q3.out _ _))
  refine wpQuiet_nil ?_
  intro _ hw'
  obtain ⟨⟨dq, osq⟩, hw''⟩ := hw'
  subst hw''
  go_wp2_with fail
  go_ret
  exact ⟨by rw [E.out]; rfl, below_regrown w dq osq⟩

set_option maxRecDepth 100000 in
set_option maxHeartbeats 2000000 in
theorem l3Host_any (k : Int) (q : Value) (nm : ByteArray) (p : Int) (qs : List Int) (w : World) (hq : Ints w 0 q qs) (h : adOk k qs nm p = true) : Calls Tryd.prog 56 #[.agg #[.int .i64 k, q, .string nm, .int .i64 p]] w fun e w' => e = .returned (.string (hostB k qs nm)) ∧ Below w.heap.size w w' := by
  have HQ := Lib.hid hq
  obtain ⟨A, c, rfl, hc, hm, _⟩ := hq.open_
  obtain ⟨V, hV⟩ : ∃ V, w.alloc (.cells #[.int .i64 k, .slice A qs.length c, .string nm, .int .i64 p] 30) = V := ⟨_, rfl⟩
  have K : Hid (Blk V w.heap.size 30 #[.int .i64 k, .slice A qs.length c, .string nm, .int .i64 p]) := Lib.hid (by rw [← hV]; exact Blk.new _ _ _)
  have B : Hid (Below w.heap.size w V) := Lib.hid (by rw [← hV]; exact (Below.refl _ _).alloc (Nat.le_refl _) _)
  have I : Hid (Ints V 0 (.slice A qs.length c) qs) := Lib.hid (by rw [← hV]; exact HQ.out.alloc _)
  have a0 : V.cell? ⟨w.heap.size, 0, none⟩ = some (.int .i64 k) := K.out.cell 0
  have a1 : V.cell? ⟨w.heap.size, 1, none⟩ = some (.slice A qs.length c) := K.out.cell 1
  have a2 : V.cell? ⟨w.heap.size, 2, none⟩ = some (.string nm) := K.out.cell 2
  have a3 : V.cell? ⟨w.heap.size, 3, none⟩ = some (.int .i64 p) := K.out.cell 3
  clear hq
  by_cases hk : k = 1
  · have E : Hid (hostB k qs nm = quadB qs) := Lib.hid (if_pos hk)
    have H := Lib.hid (l2Quad_any _ qs _ I.out (adOk_quad h hk).2.1)
    subst hk
    go_enter Tryd.func56, Tryd.ntmps56
    go_wp2_with fail
    refine H.out.mono ?_
    rintro e w1 ⟨rfl, b1⟩
    have B1 := Lib.hid (B.out.trans (b1.mono B.out.size))
    clear b1
    go_wp2_with fail
    go_ret
    exact ⟨by rw [E.out]; rfl, B1.out⟩
  · have E : Hid (hostB k qs nm = nm) := Lib.hid (if_neg hk)
    go_enter Tryd.func56, Tryd.ntmps56
    go_wp2_with fail
    go_ret
    exact ⟨by rw [E.out]; rfl, B.out⟩

set_option maxRecDepth 100000 in
set_option maxHeartbeats 2000000 in
theorem spec_AddressText_any (k : Int) (q : Value) (nm : ByteArray) (p : Int) (qs : List Int) (w : World) (hq : Ints w 0 q qs) (hn : nm.size < 4294967281) : Calls Tryd.prog 40 #[.agg #[.int .i64 k, q, .string nm, .int .i64 p]] w fun e w' => e = .returned (.string (adX k qs nm p)) ∧ Below w.heap.size w w' := by
  have HQ := Lib.hid hq
  obtain ⟨A, c, rfl, hc, hm, _⟩ := hq.open_
  obtain ⟨V, hV⟩ : ∃ V, w.alloc (.cells #[.int .i64 k, .slice A qs.length c, .string nm, .int .i64 p] 30) = V := ⟨_, rfl⟩
  have K : Hid (Blk V w.heap.size 30 #[.int .i64 k, .slice A qs.length c, .string nm, .int .i64 p]) := Lib.hid (by rw [← hV]; exact Blk.new _ _ _)
  have B : Hid (Below w.heap.size w V) := Lib.hid (by rw [← hV]; exact (Below.refl _ _).alloc (Nat.le_refl _) _)
  have I : Hid (Ints V 0 (.slice A qs.length c) qs) := Lib.hid (by rw [← hV]; exact HQ.out.alloc _)
  have a0 : V.cell? ⟨w.heap.size, 0, none⟩ = some (.int .i64 k) := K.out.cell 0
  have a1 : V.cell? ⟨w.heap.size, 1, none⟩ = some (.slice A qs.length c) := K.out.cell 1
  have a2 : V.cell? ⟨w.heap.size, 2, none⟩ = some (.string nm) := K.out.cell 2
  have a3 : V.cell? ⟨w.heap.size, 3, none⟩ = some (.int .i64 p) := K.out.cell 3
  clear hq
  cases h : adOk k qs nm p
  · have E := Lib.hid (adX_not h)
    go_enter Tryd.func40, Tryd.ntmps40
    go_wp2_with (go_at_call 32; refine (spec_AddressValid_any k _ nm p qs _ I.out hn).mono ?_; rintro e w1 ⟨rfl, b1⟩; rw [h])
    have B1 := Lib.hid (B.out.trans (b1.mono B.out.size))
    go_ret
    exact ⟨by rw [E.out]; rfl, B1.out⟩
  have hp := adOk_port h
  have HPN : Hid (p = ((p.toNat : Nat) : Int)) := Lib.hid (by omega)
  obtain ⟨H, hH⟩ : ∃ H, hostB k qs nm = H := ⟨_, rfl⟩
  obtain ⟨D, hD⟩ : ∃ D, decB p.toNat = D := ⟨_, rfl⟩
  have E : Hid (adT k qs nm p = H ++ ⟨#[58]⟩ ++ D) := Lib.hid (by rw [← hH, ← hD]; rfl)
  obtain ⟨z0, hz0⟩ : ∃ z, H.size = z := ⟨_, rfl⟩
  obtain ⟨z1, hz1⟩ : ∃ z, D.size = z := ⟨_, rfl⟩
  have s0 : z0 ≤ 83 := by rw [← hz0, ← hH]; exact hostB_size h
  have s1 : z1 ≤ 20 := by rw [← hz1, ← hD]; exact decB_size_le (by omega)
  have n0 : (9223372036854775807 < z0 + 1) = False := eq_false (by omega)
  have n1 : (9223372036854775807 < z0 + 1 + z1) = False := eq_false (by omega)
  have EX := Lib.hid (adX_ok h)
  have hh := h
  go_enter Tryd.func40, Tryd.ntmps40
  go_wp2_with (go_at_call 32; refine (spec_AddressValid_any k _ nm p qs _ I.out hn).mono ?_; rintro e w1 ⟨rfl, b1⟩; rw [hh]; clear hV a0 a1 a2 a3)
  have B1 := Lib.hid (B.out.trans (b1.mono B.out.size))
  have K1 := K.out.kept b1
  have I1 := Lib.hid (I.out.below b1)
  have a0 : w1.cell? ⟨w.heap.size, 0, none⟩ = some (.int .i64 k) := K1.cell 0
  have a1 : w1.cell? ⟨w.heap.size, 1, none⟩ = some (.slice A qs.length c) := K1.cell 1
  have a2 : w1.cell? ⟨w.heap.size, 2, none⟩ = some (.string nm) := K1.cell 2
  have a3 : w1.cell? ⟨w.heap.size, 3, none⟩ = some (.int .i64 p) := K1.cell 3
  have k0 := cell_regrown a0
  have k1 := cell_regrown a1
  have k2 := cell_regrown a2
  have k3 := cell_regrown a3
  have Q0 : Hid (∀ d os, Calls Tryd.prog 56 #[.agg #[.int .i64 k, .slice A qs.length c, .string nm, .int .i64 p]] (grow (redrawn w1 d) os) fun e w'' => e = .returned (.string H) ∧ ∃ p : Regrown, w'' = grow (redrawn w1 p.d) p.os) := Lib.hid fun d os => Calls.regrown_of (by rw [← hH]; exact l3Host_any k _ nm p qs _ (I1.out.below (below_regrown w1 d os)) h)
  have Q1 : Hid (∀ d os, Calls Tryd.prog 57 #[.int .i64 p] (grow (redrawn w1 d) os) fun e w'' => e = .returned (.string D) ∧ ∃ p : Regrown, w'' = grow (redrawn w1 p.d) p.os) := Lib.hid fun d os => Calls.regrown_of (by rw [← hD]; have e := l6Dec_any p.toNat (grow (redrawn w1 d) os) (by omega); rw [← HPN.out] at e; exact e)
  clear K1 b1 hH hD hh h hp s0 s1
  refine wp_region_quiet_below (by kernel_rfl) (by kernel_rfl) ?_
  repeat (quiet_step (first | with_reducible exact Q0.out _ _ | with_reducible exact Q1.out _ _))
  refine wpQuiet_nil ?_
  intro _ hw'
  obtain ⟨⟨dq, osq⟩, hw''⟩ := hw'
  subst hw''
  go_wp2_with fail
  go_ret
  exact ⟨by rw [EX.out, E.out]; rfl, B1.out.trans ((below_regrown w1 dq osq).mono B1.out.size)⟩

/-- 'make([]string, 4)' -/
theorem mk_strs4 (u : World) : (Instr.makeSlice 71 (.int .i64 4) (.int .i64 4)).run Tryd.prog u = .ok (.slice (some ⟨u.heap.size, 0, none⟩) 4 4) (u.alloc (.cells (sv (List.replicate 4 ByteArray.empty)).toArray 9)) := by
  obtain ⟨i0, hi, hz0, hz1, hz2⟩ := info_parts Tryd.infoString
  have h := run_make (P := Tryd.prog) u 71 9 i0 (.string ByteArray.empty) Tryd.underlying71 hi hz0 .i64 .i64 4 4 (by omega) (Int.le_refl _) (by rw [hz2]; omega) (by omega)
  simp only [hz1, Nat.mul_one] at h
  have e : madeCells (Value.string ByteArray.empty).cells 4 = (sv (List.replicate 4 ByteArray.empty)).toArray := by kernel_rfl
  rw [show Int.toNat 4 = 4 from rfl, e] at h
  exact h
theorem fill_next {ss : List ByteArray} {j : Nat} {s e : ByteArray} (hs : ss[j]? = some s) (h4 : ss.length = 4) : (sv (ss.take j ++ List.replicate (4 - j) e)).toArray.setIfInBounds j (.string s) = (sv (ss.take (j + 1) ++ List.replicate (4 - (j + 1)) e)).toArray := by
  obtain ⟨hj, hs'⟩ := List.getElem?_eq_some_iff.1 hs
  have hl : (ss.take j).length = j := by rw [List.length_take]; omega
  rw [List.setIfInBounds_toArray]
  congr 1
  unfold sv
  rw [← List.map_set, List.set_append_right _ _ (by omega), hl, Nat.sub_self, show 4 - j = (4 - (j + 1)) + 1 by omega, List.replicate_succ, List.set_cons_zero, List.take_succ_eq_append_getElem hj, hs']
  simp
theorem fill_at {ss : List ByteArray} {j : Nat} {e : ByteArray} (hj : j < 4) (h4 : ss.length = 4) : (sv (ss.take j ++ List.replicate (4 - j) e)).toArray[j]? = some (.string e) := by
  have hl : (ss.take j).length = j := by rw [List.length_take]; omega
  simp only [sv, List.getElem?_toArray, List.getElem?_map]
  rw [List.getElem?_append_right (by omega), hl, Nat.sub_self, show 4 - j = (4 - (j + 1)) + 1 by omega, List.replicate_succ]
  rfl
theorem quad_joined {qs : List Int} (h : qs.length = 4) : (⟨(Lib.join ((qs.map fun x => decB x.toNat).map (·.data.toList)) dotB.data.toList).toArray⟩ : ByteArray) = quadB qs := by
  match qs, h with
  | [a, b, c, d], _ => exact quad_join (decB a.toNat) (decB b.toNat) (decB c.toNat) (decB d.toNat)
set_option maxRecDepth 100000 in
set_option maxHeartbeats 2000000 in
theorem quadText_any (q : Value) (qs : List Int) (w : World) (hq : Ints w 0 q qs) (h : quadOk qs = true) (ht : Tabs w) :
    Calls Tryd.prog 64 #[q] w fun e w' => e = .returned (.string (quadB qs)) ∧ Below w.heap.size w w' := by
  have h4 := (quadOk_parts h).1
  have HH := Lib.hid h
  have HT := Lib.hid ht
  obtain ⟨A, c, rfl, hc, hm, hA⟩ := hq.open_
  obtain ⟨b, o, rfl, _, hb, hs⟩ := hA.resolve_left (fun h => by rw [h] at h4; simp at h4)
  have HS := Lib.hid hs
  obtain ⟨ss, hss⟩ : ∃ ss, (qs.map fun x => decB x.toNat) = ss := ⟨_, rfl⟩
  have HSS := Lib.hid hss
  have hsl : ss.length = 4 := by rw [← hss, List.length_map, h4]
  have HSL := Lib.hid hsl
  have H4 := Lib.hid h4
  have E : Hid ((⟨(Lib.join (ss.map (·.data.toList)) [46]).toArray⟩ : ByteArray) = quadB qs) := Lib.hid (by rw [← hss]; exact quad_joined h4)
  have hJl : Hid ((Lib.join (ss.map (·.data.toList)) [46]).length ≤ 140737488355328) := Lib.hid (by
    have h1 := quadB_size h
    rw [← E.out] at h1
    have h2 : (⟨(Lib.join (ss.map (·.data.toList)) [46]).toArray⟩ : ByteArray).size = (Lib.join (ss.map (·.data.toList)) [46]).length := by simp [ByteArray.size]
    omega)
  have hmk := mk_strs4
  obtain ⟨V, hV⟩ : ∃ V, w.alloc (.cells (sv (List.replicate 4 ByteArray.empty)).toArray 9) = V := ⟨_, rfl⟩
  have hmkw := hmk w
  rw [hV] at hmkw
  have K : Hid (Blk V w.heap.size 9 (sv (ss.take 0 ++ List.replicate (4 - 0) ByteArray.empty)).toArray) := Lib.hid (by rw [← hV]; exact Blk.new _ _ _)
  have B : Hid (Below w.heap.size w V) := Lib.hid (by rw [← hV]; exact (Below.refl _ _).alloc (Nat.le_refl _) _)
  rw [h4] at hc ⊢
  clear hs hA hq h ht hss hmk hV hsl h4
  go_enter Tryd.func64, Tryd.ntmps64
  go_wp2_with fail
  go_loopw [11] (fun i wr => ∃ j : Nat, j ≤ 4 ∧ i = .int .i64 (j : Int) ∧ Hid (Blk wr w.heap.size 9 (sv (ss.take j ++ List.replicate (4 - j) ByteArray.empty)).toArray) ∧ Hid (Below w.heap.size w wr)) (fun i _ => 4 - (intOf i).toNat)
  case atStart => exact ⟨0, by omega, rfl, K, B⟩
  case round =>
    obtain ⟨j, hj, rfl, HK, HB⟩ := hrel
    by_cases hlt : j < 4
    · have hlt' : (j : Int) < 4 := by omega
      have hji0 : (0 : Int) ≤ (j : Int) := by omega
      obtain ⟨a, ea, la, ta⟩ := quad_at HH.out j
      have c0 := (HS.out.below HB.out hb).int_at (j := j) (by rw [H4.out]; exact hlt)
      rw [ea] at c0
      have hsj : ss[j]? = some (decB a) := by
        rw [← HSS.out, List.getElem?_map, List.getElem?_eq_getElem (by rw [H4.out]; exact hlt)]
        have : qs[j]'(by rw [H4.out]; exact hlt) = (a : Int) := by
          rw [← ea, List.getD_eq_getElem?_getD, List.getElem?_eq_getElem (by rw [H4.out]; exact hlt)]
          rfl
        rw [Option.map_some, this]
        rfl
      have HN := Lib.hid (fill_next (e := ByteArray.empty) hsj HSL.out)
      have HA_ := Lib.hid (fill_at (e := ByteArray.empty) hlt HSL.out)
      clear hsj ea ta
      go_wp2_with fail
      refine (itoa_any a _ (by omega) (HT.out.below HB.out)).mono ?_
      rintro e w1 ⟨rfl, b1⟩
      have K1 := Lib.hid (HK.out.kept b1)
      have B1 := Lib.hid (HB.out.trans (b1.mono HB.out.size))
      have s0 : w1.cell? ⟨w.heap.size, j, none⟩ = some (.string ByteArray.empty) := (K1.out.cell j).trans HA_.out
      have f0 := K1.out.free j
      have K2 : Hid (Blk (w1.setCell ⟨w.heap.size, j, none⟩ (.string (decB a))) w.heap.size 9 (sv (ss.take (j + 1) ++ List.replicate (4 - (j + 1)) ByteArray.empty)).toArray) := Lib.hid (by
        have h := K1.out.set_ j (.string (decB a))
        rw [HN.out] at h
        exact h)
      have B2 := Lib.hid (B1.out.setCell (p := ⟨w.heap.size, j, none⟩) (Nat.le_refl _) (.string (decB a)))
      clear b1
      go_wp2_with fail
      go_roundw
      case rel => exact ⟨j + 1, by omega, by go_num, K2, B2⟩
      case measure => simp [intOf]; omega
    · have hj4 : j = 4 := by omega
      subst hj4
      have hj := Go.Proofs.Tryd.strings_Join w.heap.size 0 4 ss ⟨#[46]⟩ wr (fun i x hx => by
        rw [Nat.zero_add, HK.out.cell i]
        simp only [List.take_of_length_le (Nat.le_of_eq HSL.out), Nat.sub_self, List.replicate_zero, List.append_nil, sv, List.getElem?_toArray, List.getElem?_map, hx]
        rfl) HK.out.lt (by rw [HSL.out]; omega) (by rw [HSL.out]; exact Nat.le_refl _) hJl.out
      rw [HSL.out] at hj
      have HJ := Lib.hid hj
      clear hj hlt
      go_wp2_with fail
      refine HJ.out.mono ?_
      rintro e w1 ⟨rfl, b1⟩
      have B1 := Lib.hid (HB.out.trans (b1.mono HB.out.size))
      clear b1
      go_wp2_with fail
      go_ret
      exact ⟨by rw [← E.out]; rfl, B1.out⟩

set_option maxRecDepth 100000 in
set_option maxHeartbeats 2000000 in
theorem hostText_any (k : Int) (q : Value) (nm : ByteArray) (p : Int) (qs : List Int) (w : World) (hq : Ints w 0 q qs) (h : adOk k qs nm p = true) (ht : Tabs w) : Calls Tryd.prog 54 #[.agg #[.int .i64 k, q, .string nm, .int .i64 p]] w fun e w' => e = .returned (.string (hostB k qs nm)) ∧ Below w.heap.size w w' := by
  have HQ := Lib.hid hq
  obtain ⟨A, c, rfl, hc, hm, _⟩ := hq.open_
  obtain ⟨V, hV⟩ : ∃ V, w.alloc (.cells #[.int .i64 k, .slice A qs.length c, .string nm, .int .i64 p] 30) = V := ⟨_, rfl⟩
  have K : Hid (Blk V w.heap.size 30 #[.int .i64 k, .slice A qs.length c, .string nm, .int .i64 p]) := Lib.hid (by rw [← hV]; exact Blk.new _ _ _)
  have B : Hid (Below w.heap.size w V) := Lib.hid (by rw [← hV]; exact (Below.refl _ _).alloc (Nat.le_refl _) _)
  have I : Hid (Ints V 0 (.slice A qs.length c) qs) := Lib.hid (by rw [← hV]; exact HQ.out.alloc _)
  have a0 : V.cell? ⟨w.heap.size, 0, none⟩ = some (.int .i64 k) := K.out.cell 0
  have a1 : V.cell? ⟨w.heap.size, 1, none⟩ = some (.slice A qs.length c) := K.out.cell 1
  have a2 : V.cell? ⟨w.heap.size, 2, none⟩ = some (.string nm) := K.out.cell 2
  have a3 : V.cell? ⟨w.heap.size, 3, none⟩ = some (.int .i64 p) := K.out.cell 3
  clear hq
  have TB : Hid (Tabs V) := Lib.hid (by rw [← hV]; exact ht.alloc _)
  by_cases hk : k = 1
  · have E : Hid (hostB k qs nm = quadB qs) := Lib.hid (if_pos hk)
    have H := Lib.hid (quadText_any _ qs _ I.out (adOk_quad h hk).2.1 TB.out)
    subst hk
    go_enter Tryd.func54, Tryd.ntmps54
    go_wp2_with fail
    refine H.out.mono ?_
    rintro e w1 ⟨rfl, b1⟩
    have B1 := Lib.hid (B.out.trans (b1.mono B.out.size))
    clear b1
    go_wp2_with fail
    go_ret
    exact ⟨by rw [E.out]; rfl, B1.out⟩
  · have E : Hid (hostB k qs nm = nm) := Lib.hid (if_neg hk)
    go_enter Tryd.func54, Tryd.ntmps54
    go_wp2_with fail
    go_ret
    exact ⟨by rw [E.out]; rfl, B.out⟩

set_option maxRecDepth 100000 in
set_option maxHeartbeats 2000000 in
theorem addressText_any (k : Int) (q : Value) (nm : ByteArray) (p : Int) (qs : List Int) (w : World) (hq : Ints w 0 q qs) (h : adOk k qs nm p = true) (ht : Tabs w) : Calls Tryd.prog 39 #[.agg #[.int .i64 k, q, .string nm, .int .i64 p]] w fun e w' => e = .returned (.string (adT k qs nm p)) ∧ Below w.heap.size w w' := by
  have HQ := Lib.hid hq
  obtain ⟨A, c, rfl, hc, hm, _⟩ := hq.open_
  obtain ⟨V, hV⟩ : ∃ V, w.alloc (.cells #[.int .i64 k, .slice A qs.length c, .string nm, .int .i64 p] 30) = V := ⟨_, rfl⟩
  have K : Hid (Blk V w.heap.size 30 #[.int .i64 k, .slice A qs.length c, .string nm, .int .i64 p]) := Lib.hid (by rw [← hV]; exact Blk.new _ _ _)
  have B : Hid (Below w.heap.size w V) := Lib.hid (by rw [← hV]; exact (Below.refl _ _).alloc (Nat.le_refl _) _)
  have I : Hid (Ints V 0 (.slice A qs.length c) qs) := Lib.hid (by rw [← hV]; exact HQ.out.alloc _)
  have a0 : V.cell? ⟨w.heap.size, 0, none⟩ = some (.int .i64 k) := K.out.cell 0
  have a1 : V.cell? ⟨w.heap.size, 1, none⟩ = some (.slice A qs.length c) := K.out.cell 1
  have a2 : V.cell? ⟨w.heap.size, 2, none⟩ = some (.string nm) := K.out.cell 2
  have a3 : V.cell? ⟨w.heap.size, 3, none⟩ = some (.int .i64 p) := K.out.cell 3
  clear hq
  have TB : Hid (Tabs V) := Lib.hid (by rw [← hV]; exact ht.alloc _)
  have k0 := cell_regrown a0
  have k1 := cell_regrown a1
  have k2 := cell_regrown a2
  have k3 := cell_regrown a3
  have hp := adOk_port h
  have HPN : Hid (p = ((p.toNat : Nat) : Int)) := Lib.hid (by omega)
  obtain ⟨H, hH⟩ : ∃ H, hostB k qs nm = H := ⟨_, rfl⟩
  obtain ⟨D, hD⟩ : ∃ D, decB p.toNat = D := ⟨_, rfl⟩
  have E : Hid (adT k qs nm p = H ++ ⟨#[58]⟩ ++ D) := Lib.hid (by rw [← hH, ← hD]; rfl)
  obtain ⟨z0, hz0⟩ : ∃ z, H.size = z := ⟨_, rfl⟩
  obtain ⟨z1, hz1⟩ : ∃ z, D.size = z := ⟨_, rfl⟩
  have s0 : z0 ≤ 83 := by rw [← hz0, ← hH]; exact hostB_size h
  have s1 : z1 ≤ 20 := by rw [← hz1, ← hD]; exact decB_size_le (by omega)
  have n0 : (9223372036854775807 < z0 + 1) = False := eq_false (by omega)
  have n1 : (9223372036854775807 < z0 + 1 + z1) = False := eq_false (by omega)
  have Q0 : Hid (∀ d os, Calls Tryd.prog 54 #[.agg #[.int .i64 k, .slice A qs.length c, .string nm, .int .i64 p]] (grow (redrawn V d) os) fun e w'' => e = .returned (.string H) ∧ ∃ p : Regrown, w'' = grow (redrawn V p.d) p.os) := Lib.hid fun d os => Calls.regrown_of (by rw [← hH]; exact hostText_any k _ nm p qs _ (I.out.below (below_regrown V d os)) h (Tabs.below TB.out (below_regrown V d os)))
  have Q1 : Hid (∀ d os, Calls Tryd.prog 55 #[.int .i64 p] (grow (redrawn V d) os) fun e w'' => e = .returned (.string D) ∧ ∃ p : Regrown, w'' = grow (redrawn V p.d) p.os) := Lib.hid fun d os => Calls.regrown_of (by rw [← hD]; have e := itoa_any p.toNat (grow (redrawn V d) os) (by omega) (Tabs.below TB.out (below_regrown V d os)); rw [← HPN.out] at e; exact e)
  clear hH hD h hp s0 s1
  go_enter Tryd.func39, Tryd.ntmps39
  go_wp2_with fail
  clear hV a0 a1 a2 a3
  refine wp_region_quiet_below (by kernel_rfl) (by kernel_rfl) ?_
  repeat (quiet_step (first | with_reducible exact Q0.out _ _ | with_reducible exact Q1.out _ _))
  refine wpQuiet_nil ?_
  intro _ hw'
  obtain ⟨⟨dq, osq⟩, hw''⟩ := hw'
  subst hw''
  go_wp2_with fail
  go_ret
  exact ⟨by rw [E.out]; rfl, B.out.trans ((below_regrown V dq osq).mono B.out.size)⟩

end Go.Proofs.YtpcflkdeoafpeaaDoor

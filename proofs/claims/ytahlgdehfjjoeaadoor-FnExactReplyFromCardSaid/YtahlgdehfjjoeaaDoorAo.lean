/-
  The reference's l3Size and AddressOf return plain functions of the bytes; the address lies in memory of the call's own. Conditions: the slice reads as a list of integers.
  The reference's AddressOf returns a plain function of the bytes; the address lies in memory of the call's own. Conditions: the slice reads as a list of integers.
-/
import Derived.Test.YtahlgdehfjjoeaaDoorRdAd
import Derived.Test.YtahlgdehfjjoeaaDoorTexts
import Derived.Test.YtahlgdehfjjoeaaDoorCodeBytes
import Derived.Test.YtahlgdehfjjoeaaDoorPk
import Derived.RegionTactic
import Derived.BigRegion
import Derived.Deep.RegionHeld3
import Derived.Test.YtahlgdehfjjoeaaDoorAdBytes
import Derived.Test.YtahlgdehfjjoeaaDoorTail
import Derived.Deep.CutRange
namespace Go.Proofs.YtahlgdehfjjoeaaDoor
open Go.RowKit

def szL (t : List Int) : Int := if t.getD 0 0 = 1 then 7 else if t.getD 0 0 = 3 ∧ 2 ≤ t.length then wrap64 (4 + t.getD 1 0) else -1
set_option maxHeartbeats 1000000 in
theorem l3Size_any (v : Value) (t : List Int) (w : World) (hv : Ints w 0 v t) : Calls Tryd.prog 93 #[v] w fun e w' => e = .returned (.int .i64 (szL t)) ∧ w = w' := by
  obtain ⟨A, c, rfl, hc, hm, hA⟩ := hv.open_
  clear hv
  by_cases h0 : t.length = 0
  · have E : Hid (szL t = -1) := Lib.hid (by rw [List.eq_nil_of_length_eq_zero h0]; rfl)
    have h0' : (t.length : Int) = 0 := by omega
    clear hA h0
    go_enter Tryd.func93, Tryd.ntmps93
    go_wp2
    go_ret
    exact ⟨by rw [E.out]; rfl, rfl⟩
  obtain ⟨b, o, rfl, _, hb, hs⟩ := hA.resolve_left (fun h => by rw [h] at h0; simp at h0)
  have c0 := hs.int_at (j := 0) (by omega)
  rw [Nat.add_zero] at c0
  obtain ⟨x, hx⟩ : ∃ x, t.getD 0 0 = x := ⟨_, rfl⟩
  rw [hx] at c0
  have hp : (0 : Int) < (t.length : Int) := by omega
  by_cases h1 : x = 1
  · subst h1
    have E : Hid (szL t = 7) := Lib.hid (by rw [szL, hx]; rfl)
    clear hs hx h0
    go_enter Tryd.func93, Tryd.ntmps93
    go_wp2
    go_ret
    exact ⟨by rw [E.out]; rfl, rfl⟩
  have h1' : (x == 1) = false := by simpa using h1
  by_cases h2 : t.length = 1
  · have E : Hid (szL t = -1) := Lib.hid (by rw [szL, hx, if_neg h1, if_neg (by omega)])
    have h2' : ¬ (1 : Int) < (t.length : Int) := by omega
    clear hs hx h0 h1 h2
    go_enter Tryd.func93, Tryd.ntmps93
    go_wp2
    go_ret
    exact ⟨by rw [E.out]; rfl, rfl⟩
  have h2' : (1 : Int) < (t.length : Int) := by omega
  by_cases h3 : x = 3
  · subst h3
    have c1 := hs.int_at (j := 1) (by omega)
    obtain ⟨y, hy⟩ : ∃ y, t.getD 1 0 = y := ⟨_, rfl⟩
    rw [hy] at c1
    have E : Hid (szL t = wrap64 (4 + y)) := Lib.hid (by rw [szL, hx, if_neg h1, if_pos ⟨rfl, by omega⟩, hy])
    clear hs hx h0 h1 hy h2
    go_enter Tryd.func93, Tryd.ntmps93
    go_wp2
    go_ret
    exact ⟨by rw [E.out]; rfl, rfl⟩
  · have E : Hid (szL t = -1) := Lib.hid (by rw [szL, hx, if_neg h1, if_neg (fun h => h3 h.1)])
    have h3' : (x == 3) = false := by simpa using h3
    clear hs hx h0 h1 h2 h3
    go_enter Tryd.func93, Tryd.ntmps93
    go_wp2
    go_ret
    exact ⟨by rw [E.out]; rfl, rfl⟩

/-- Valid bytes begin with an address. -/
def aoOk (t : List Int) : Bool := validL t && afOk t
/-- An address, its size and a verdict. -/
def AoT (b : Bool) (t : List Int) (q : Value) : Value := .tuple #[.agg #[.int .i64 (if b = true then t.getD 0 0 else 0), q, .string (if b = true then aM t else ByteArray.empty), .int .i64 (if b = true then aP t else 0)], .int .i64 (if b = true then (aN t : Int) else 0), .bool b]
def GaveAo (w : World) (b : Bool) (t : List Int) (e : Ending) (w' : World) : Prop := ∃ q, e = .returned (AoT b t q) ∧ Own w' w.heap.size q (if b = true then aQ t else []) ∧ Below w.heap.size w w'
theorem aoT_not {t : List Int} (h : aoOk t = false) : (∀ q, AoT (aoOk t) t q = .tuple #[.agg #[.int .i64 0, q, .string .empty, .int .i64 0], .int .i64 0, .bool false]) ∧ (if aoOk t = true then aQ t else []) = [] := by
  rw [h]; exact ⟨fun _ => rfl, rfl⟩
theorem aoT_yes {t : List Int} (h : aoOk t = true) : (∀ q, AoT (aoOk t) t q = .tuple #[.agg #[.int .i64 (t.getD 0 0), q, .string (aM t), .int .i64 (aP t)], .int .i64 (aN t : Int), .bool true]) ∧ (if aoOk t = true then aQ t else []) = aQ t := by
  rw [h]; exact ⟨fun _ => rfl, rfl⟩

set_option maxRecDepth 100000 in
set_option maxHeartbeats 2000000 in
/-- The ways that end ahead of the address: invalid bytes, or too few. -/
theorem spec_AddressOf_not (v : Value) (t : List Int) (w : World) (hv : Ints w 0 v t) (h : validL t = false ∨ szL t < 0 ∨ (t.length : Int) < szL t) (hE : aoOk t = false) :
    Calls Tryd.prog 78 #[v] w fun e w' => GaveAo w (aoOk t) t e w' := by
  have HV := Lib.hid hv
  obtain ⟨t1, t2⟩ := aoT_not hE
  have T1 := Lib.hid t1
  have T2 := Lib.hid t2
  obtain ⟨A, c, rfl, hc, hm, _⟩ := hv.open_
  obtain ⟨V, hV⟩ : ∃ V, w.alloc (.cells #[.int .i64 0, .slice none 0 0, .string ⟨#[]⟩, .int .i64 0] 25) = V := ⟨_, rfl⟩
  have K : Hid (Blk V w.heap.size 25 #[.int .i64 0, .slice none 0 0, .string .empty, .int .i64 0]) := Lib.hid (by rw [← hV]; exact Blk.new _ _ _)
  have B : Hid (Below w.heap.size w V) := Lib.hid (by rw [← hV]; exact (Below.refl _ _).alloc (Nat.le_refl _) _)
  have I : Hid (Ints V 0 (.slice A t.length c) t) := Lib.hid (by rw [← hV]; exact HV.out.alloc _)
  have r0 : V.cell? ⟨w.heap.size, 0, none⟩ = some (.int .i64 0) := K.out.cell 0
  have r1 : V.cell? ⟨w.heap.size, 1, none⟩ = some (.slice none 0 0) := K.out.cell 1
  have r2 : V.cell? ⟨w.heap.size, 2, none⟩ = some (.string .empty) := K.out.cell 2
  have r3 : V.cell? ⟨w.heap.size, 3, none⟩ = some (.int .i64 0) := K.out.cell 3
  have f0 := K.out.free 0
  have f1 := K.out.free 1
  have f2 := K.out.free 2
  have f3 := K.out.free 3
  obtain ⟨n, hn⟩ : ∃ n, szL t = n := ⟨_, rfl⟩
  have EN := Lib.hid hn
  rw [hn] at h
  clear hv hE t1 t2 hn
  cases hvl : validL t
  · go_enter Tryd.func78, Tryd.ntmps78
    go_wp2_with (first | (go_at_call 93; refine (l3Size_any _ t _ I.out).mono ?_; rintro e w' ⟨rfl, rfl⟩; rw [EN.out]) | (go_at_call 77; refine (spec_BytesValid_any _ t _ I.out).mono ?_; rintro e w' ⟨rfl, rfl⟩; rw [hvl]))
    refine bodyPost_ret (v := .tuple #[.agg #[.int .i64 0, .slice none 0 0, .string .empty, .int .i64 0], .int .i64 0, .bool false]) (by simp [results, Tryd.results78, go_sem, r0, r1, r2, r3]; try rfl) rfl ?_
    exact ⟨_, by rw [T1.out], by rw [T2.out]; exact Own.nil_ _ _, below_st4 B.out (Nat.le_refl _) _ _ _ _⟩
  · rcases h with h | h | h
    · rw [hvl] at h; cases h
    · go_enter Tryd.func78, Tryd.ntmps78
      go_wp2_with (first | (go_at_call 93; refine (l3Size_any _ t _ I.out).mono ?_; rintro e w' ⟨rfl, rfl⟩; rw [EN.out]) | (go_at_call 77; refine (spec_BytesValid_any _ t _ I.out).mono ?_; rintro e w' ⟨rfl, rfl⟩; rw [hvl]))
      refine bodyPost_ret (v := .tuple #[.agg #[.int .i64 0, .slice none 0 0, .string .empty, .int .i64 0], .int .i64 0, .bool false]) (by simp [results, Tryd.results78, go_sem, r0, r1, r2, r3]; try rfl) rfl ?_
      exact ⟨_, by rw [T1.out], by rw [T2.out]; exact Own.nil_ _ _, below_st4 B.out (Nat.le_refl _) _ _ _ _⟩
    · have hneg' : 0 ≤ n := by omega
      go_enter Tryd.func78, Tryd.ntmps78
      go_wp2_with (first | (go_at_call 93; refine (l3Size_any _ t _ I.out).mono ?_; rintro e w' ⟨rfl, rfl⟩; rw [EN.out]) | (go_at_call 77; refine (spec_BytesValid_any _ t _ I.out).mono ?_; rintro e w' ⟨rfl, rfl⟩; rw [hvl]))
      refine bodyPost_ret (v := .tuple #[.agg #[.int .i64 0, .slice none 0 0, .string .empty, .int .i64 0], .int .i64 0, .bool false]) (by simp [results, Tryd.results78, go_sem, r0, r1, r2, r3]; try rfl) rfl ?_
      exact ⟨_, by rw [T1.out], by rw [T2.out]; exact Own.nil_ _ _, below_st4 B.out (Nat.le_refl _) _ _ _ _⟩
end Go.Proofs.YtahlgdehfjjoeaaDoor
namespace Go.Proofs.YtahlgdehfjjoeaaDoor
open Go.RowKit

theorem belowA {w W : World} (h : Below w.heap.size w W) (o : Obj) : Below w.heap.size w (W.alloc o) := h.alloc h.size o
theorem oneDrew {w W : World} {B i : Nat} {x : Value} (h : W.cell? ⟨B, i, none⟩ = some x ∧ B < W.heap.size ∧ Below w.heap.size w W) : W.drew.cell? ⟨B, i, none⟩ = some x ∧ B < W.drew.heap.size ∧ Below w.heap.size w W.drew := ⟨h.1, h.2.1, h.2.2.drew⟩
theorem Ints.belowS {w W : World} {lo B i : Nat} {v x : Value} {zs : List Int} (h : Ints w lo v zs) (hs : W.cell? ⟨B, i, none⟩ = some x ∧ B < W.heap.size ∧ Below w.heap.size w W) : Ints W lo v zs := h.below hs.2.2
theorem Blk.newAt {W : World} {t : TypeId} {cs : Array Value} {g : Nat} (hg : g = W.heap.size) : Blk (W.alloc (.cells cs t)) g t cs := by
  subst hg
  exact Blk.new W t cs
theorem slice_ints_ {P : Program} {t : TypeId} {w : World} {b o len c s : Nat} {l h : Int} (ht : P.underlying t = some (.slice (P.elem t))) (hz : (sizeOf (P.elem t)).run P w = .ok s w) (h0 : 0 ≤ l) (h1 : l ≤ h) (h2 : h ≤ c) :
    (Instr.slice t (.slice (some ⟨b, o, none⟩) len c) (some (.int .i64 l)) (some (.int .i64 h)) none).run P w = .ok (sliced (some ⟨b, o, none⟩) l.toNat h.toNat c s) w := by
  rw [run_slice_lh w t _ len c ht .i64 .i64 l h h0 h1 h2, hz]
  rfl
theorem Tryd.ulInts : Tryd.prog.underlying 23 = some (.slice (Tryd.prog.elem 23)) := by kernel_rfl
theorem Tryd.sizeInts (w : World) : (sizeOf (Tryd.prog.elem 23)).run Tryd.prog w = .ok 1 w := by kernel_rfl
/-- A part of a slice of integers, its run over an abstract value. -/
theorem slice_part {W0 : World} {b o n c l h : Nat} {zs : List Int} (hs : Seg W0 3 b o (iv zs)) (hn : zs.length = n) (hlh : l ≤ h) (hh : h ≤ n) (hnc : n ≤ c) (hc : c ≤ 9223372036854775807) :
    ∃ V, (∀ W : World, (Instr.slice 23 (.slice (some ⟨b, o, none⟩) n c) (some (.int .i64 (l : Int))) (some (.int .i64 (h : Int))) none).run Tryd.prog W = .ok V W) ∧ Ints W0 0 V ((zs.drop l).take (h - l)) := by
  refine ⟨_, fun W => slice_ints_ Tryd.ulInts (Tryd.sizeInts W) (by omega) (by omega) (by omega), ?_⟩
  simp only [Int.toNat_natCast, sliced]
  by_cases hcl : c = l
  · have e : h - l = 0 := by omega
    rw [e, List.take_zero]
    simp [hcl]
    exact Ints.none_ _ _ _ _ (by omega)
  · simp [hcl, addr_add]
    exact Ints.part hs (by omega) (by omega) (by omega)

theorem take_two {zs : List Int} {p : Nat} (h : p + 2 ≤ zs.length) : (zs.drop p).take 2 = [zs.getD p 0, zs.getD (p + 1) 0] := by
  rw [List.drop_eq_getElem_cons (by omega : p < zs.length), List.take_succ_cons, List.drop_eq_getElem_cons (by omega : p + 1 < zs.length), List.take_succ_cons, List.take_zero]
  simp [List.getD, (by omega : p < zs.length), (by omega : p + 1 < zs.length)]

/-- What the struct's own statement leaves: the struct in block X, its empty quad in block E. -/
def AoMid (w W0 : World) (b o : Nat) (k P : Int) (X E : Nat) (wx : World) : Prop :=
  X ≠ E ∧ w.heap.size + 1 ≤ X ∧ w.heap.size + 1 ≤ E ∧ X < wx.heap.size ∧ Blk wx X 25 #[.int .i64 k, .slice (some ⟨E, 0, none⟩) 0 0, .string ⟨#[]⟩, .int .i64 P] ∧ Own wx (w.heap.size + 1) (.slice (some ⟨E, 0, none⟩) 0 0) [] ∧
    Blk wx w.heap.size 25 #[.int .i64 0, .slice none 0 0, .string .empty, .int .i64 0] ∧ wx.cell? ⟨b, o, none⟩ = some (.int .i64 k) ∧ b < wx.heap.size ∧ Below W0.heap.size W0 wx
/-- The struct is filled. -/
def AoEnd (w : World) (k P : Int) (Q : List Int) (M : ByteArray) (X : Nat) (q : Value) (wx : World) : Prop :=
  Blk wx X 25 #[.int .i64 k, q, .string M, .int .i64 P] ∧ Own wx (w.heap.size + 1) q Q ∧ Blk wx w.heap.size 25 #[.int .i64 0, .slice none 0 0, .string .empty, .int .i64 0] ∧ Below w.heap.size w wx
theorem aoMid_a {w W0 : World} {b o : Nat} {k P : Int} (z0 : W0.heap.size = w.heap.size + 1) (K0 : Blk W0 w.heap.size 25 #[.int .i64 0, .slice none 0 0, .string .empty, .int .i64 0])
    (S : W0.cell? ⟨b, o, none⟩ = some (.int .i64 k) ∧ b < W0.heap.size ∧ Below W0.heap.size W0 W0) :
    AoMid w W0 b o k P (w.heap.size + 1 + 1) (w.heap.size + 1) (((W0.alloc (.cells #[] 3)).alloc (.cells #[.int .i64 k, .slice (some ⟨w.heap.size + 1, 0, none⟩) 0 0, .string ⟨#[]⟩, .int .i64 P] 25)).drew) := by
  refine ⟨by omega, by omega, by omega, ?_, ?_, ?_, ?_, ?_⟩
  · show _ < (World.alloc _ _).heap.size
    simp [z0]
  · exact Blk.newAt (by simp [z0])
  · exact (Own.lit_0 z0.symm (by omega)).alloc _
  · exact (K0.alloc _).alloc _
  · exact oneDrew (one_alloc (one_alloc S _) _)
theorem aoMid_b {w W0 : World} {b o : Nat} {k P : Int} (z0 : W0.heap.size = w.heap.size + 1) (K0 : Blk W0 w.heap.size 25 #[.int .i64 0, .slice none 0 0, .string .empty, .int .i64 0])
    (S : W0.cell? ⟨b, o, none⟩ = some (.int .i64 k) ∧ b < W0.heap.size ∧ Below W0.heap.size W0 W0) :
    AoMid w W0 b o k P (w.heap.size + 1) (w.heap.size + 1 + 1) (((W0.alloc (.cells #[.int .i64 k, .slice (some ⟨w.heap.size + 1 + 1, 0, none⟩) 0 0, .string ⟨#[]⟩, .int .i64 P] 25)).alloc (.cells #[] 3)).drew) := by
  refine ⟨by omega, by omega, by omega, ?_, ?_, ?_, ?_, ?_⟩
  · show _ < (World.alloc _ _).heap.size
    simp [z0]
  · exact (Blk.newAt z0.symm).alloc _
  · exact Own.lit_0 (by simp [z0]) (by simp [z0])
  · exact (K0.alloc _).alloc _
  · exact oneDrew (one_alloc (one_alloc S _) _)
/-- The struct's cells and the bytes agree. -/
theorem ao_ok {t : List Int} {k P : Int} {Q : List Int} {M : ByteArray} (hvl : validL t = true) (hin : aIn t = true) (h0 : t.getD 0 0 = k) (h1 : aQ t = Q) (h2 : aM t = M) (h3 : aP t = P) : aoOk t = adOk k Q M P := by
  rw [aoOk, afOk, hvl, hin, h0, h1, h2, h3]
  simp
theorem ao_yes {t : List Int} {k P : Int} {Q : List Int} {M : ByteArray} {m : Nat} (h0 : t.getD 0 0 = k) (h1 : aQ t = Q) (h2 : aM t = M) (h3 : aP t = P) (h4 : aN t = m + 2) (h : aoOk t = true) :
    (∀ q, AoT (aoOk t) t q = .tuple #[.agg #[.int .i64 k, q, .string M, .int .i64 P], .int .i64 ((m : Int) + 2), .bool true]) ∧ (if aoOk t = true then aQ t else []) = Q := by
  rw [h]
  refine ⟨fun q => ?_, by simpa using h1⟩
  unfold AoT
  rw [h0, h2, h3, h4]
  simp
theorem ao_nums {t : List Int} (hvl : validL t = true) (hin : aIn t = true) : ∃ m, aN t = m + 2 ∧ 2 ≤ m ∧ m + 2 ≤ t.length ∧ t.length ≤ 120 ∧ szL t = (m : Int) + 2 ∧ (t.getD 0 0 = 1 ∧ m = 5 ∨ t.getD 0 0 = 3 ∧ m = 2 + (t.getD 1 0).toNat ∧ 2 ≤ t.length) := by
  have hbv := bytes_of_valid hvl
  have hl := validL_len hvl
  simp only [aIn, Bool.and_eq_true, Bool.or_eq_true, decide_eq_true_eq] at hin
  obtain ⟨hk, hnl⟩ := hin
  rcases hk with h | ⟨h, h2⟩
  · have e : aN t = 7 := by rw [aN, if_pos h]
    rw [e] at hnl
    refine ⟨5, e, by omega, hnl, hl, ?_, .inl ⟨h, rfl⟩⟩
    rw [szL, if_pos h]; rfl
  · have h1 : ¬ t.getD 0 0 = 1 := by omega
    have e : aN t = 4 + (t.getD 1 0).toNat := by rw [aN, if_neg h1]
    rw [e] at hnl
    have b1 := hbv (t.getD 1 0) (by simp [List.getD, (by omega : 1 < t.length)])
    refine ⟨2 + (t.getD 1 0).toNat, by omega, by omega, by omega, hl, ?_, .inr ⟨h, rfl, h2⟩⟩
    rw [szL, if_neg h1, if_pos ⟨h, h2⟩, IntWalk.wrap64_in _ (by omega)]
    omega
theorem m_facts {m L : Nat} (h : m + 2 ≤ L) (hL : L ≤ 120) : (m : Int) + 2 - 2 = (m : Int) ∧ IntKind.i64.wrap (m : Int) = (m : Int) ∧ wrap64 (m : Int) = (m : Int) ∧ ¬ (L : Int) < (m : Int) + 2 ∧ ¬ (m : Int) + 2 < 0 ∧ 0 < L ∧ (0 : Int) < (L : Int) :=
  ⟨by omega, IntWalk.i64_in _ (by omega), IntWalk.wrap64_in _ (by omega), by omega, by omega, by omega, by omega⟩

set_option maxRecDepth 100000 in
set_option maxHeartbeats 1000000 in
theorem spec_AddressOf_in (v : Value) (t : List Int) (w : World) (hv : Ints w 0 v t) (hvl : validL t = true) (hin : aIn t = true) :
    Calls Tryd.prog 78 #[v] w fun e w' => GaveAo w (aoOk t) t e w' := by
  have HV := Lib.hid hv
  obtain ⟨A, c, rfl, hc, hm, hA⟩ := hv.open_
  obtain ⟨m, hn, hm2, hnl, hl120, hsz, hk⟩ := ao_nums hvl hin
  have hbv := bytes_of_valid hvl
  have HKI := Lib.hid hk
  obtain ⟨k, hkk⟩ : ∃ k, t.getD 0 0 = k := ⟨_, rfl⟩
  have hk2 : k = 1 ∨ k = 3 := by
    rw [hkk] at hk
    rcases hk with h | h
    · exact .inl h.1
    · exact .inr h.1
  obtain ⟨b, o, rfl, _, hb, hs⟩ := hA.resolve_left (fun h => by rw [h] at hnl; simp at hnl)
  have c0 := hs.int_at (j := 0) (by omega)
  rw [Nat.add_zero, hkk] at c0
  have hx := hbv (t.getD m 0) (by simp [List.getD, (by omega : m < t.length)])
  have hy := hbv (t.getD (m + 1) 0) (by simp [List.getD, (by omega : m + 1 < t.length)])
  obtain ⟨P, hP⟩ : ∃ P, 256 * t.getD m 0 + t.getD (m + 1) 0 = P := ⟨_, rfl⟩
  have eP : Hid (aP t = P) := Lib.hid (by rw [aP, hn, ← hP]; rfl)
  obtain ⟨W0, hW0⟩ : ∃ W0, w.alloc (.cells #[.int .i64 0, .slice none 0 0, .string ⟨#[]⟩, .int .i64 0] 25) = W0 := ⟨_, rfl⟩
  have K0 : Hid (Blk W0 w.heap.size 25 #[.int .i64 0, .slice none 0 0, .string .empty, .int .i64 0]) := Lib.hid (by rw [← hW0]; exact Blk.new _ _ _)
  have B0 : Hid (Below w.heap.size w W0) := Lib.hid (by rw [← hW0]; exact (Below.refl _ _).alloc (Nat.le_refl _) _)
  have I0 : Hid (Ints W0 0 (.slice (some ⟨b, o, none⟩) t.length c) t) := Lib.hid (by rw [← hW0]; exact HV.out.alloc _)
  have S0 : Seg W0 3 b o (iv t) := by rw [← hW0]; exact hs.alloc _
  have z0 : W0.heap.size = w.heap.size + 1 := by rw [← hW0]; simp
  obtain ⟨V1, hV1, j1⟩ := slice_part S0 rfl (l := m) (h := m + 2) (by omega) (by omega) hc hm
  rw [show m + 2 - m = 2 by omega, take_two (by omega)] at j1
  have J1 := Lib.hid j1
  have HL : Hid (∀ W, Ints W 0 V1 [t.getD m 0, t.getD (m + 1) 0] → Calls Tryd.prog 94 #[V1] W fun e w' => e = .returned (.int .i64 P) ∧ W = w') := Lib.hid fun W h => by rw [← hP]; exact l1Of_any V1 _ _ W h hx hy
  have EN := Lib.hid hsz
  have d0 : W0.cell? ⟨b, o, none⟩ = some (.int .i64 k) := by rw [← hW0]; exact (World.cell?_alloc_lt w _ ⟨b, o, none⟩ hb).trans c0
  obtain ⟨e2, w1, w2, hle, hnn, htl, htl'⟩ := m_facts hnl hl120
  simp only [Int.natCast_add, Int.cast_ofNat_Int] at hV1
  have HS0 := Lib.hid S0
  have EKK := Lib.hid hkk
  clear hs c0 hx hy hP hk hbv hkk hv hA S0
  have hbW : b < W0.heap.size := by omega
  have S00 : Hid (W0.cell? ⟨b, o, none⟩ = some (.int .i64 k) ∧ b < W0.heap.size ∧ Below W0.heap.size W0 W0) := Lib.hid ⟨d0, hbW, Below.refl _ _⟩
  obtain ⟨Q, hQ⟩ : ∃ Q, aQ t = Q := ⟨_, rfl⟩
  obtain ⟨M, hM⟩ : ∃ M, aM t = M := ⟨_, rfl⟩
  have EOK := Lib.hid (ao_ok hvl hin EKK.out hQ hM eP.out)
  have EY := Lib.hid (fun h => ao_yes EKK.out hQ hM eP.out hn h)
  have EQ := Lib.hid hQ
  have EM := Lib.hid hM
  have HTH := Lib.hid hk2
  clear hQ hM hk2
  go_enter Tryd.func78, Tryd.ntmps78
  go_upto_region 4 with (first | (go_at_call 93; refine (l3Size_any _ t _ I0.out).mono ?_; rintro e w' ⟨rfl, rfl⟩; rw [EN.out]) | (go_at_call 77; refine (spec_BytesValid_any _ t _ I0.out).mono ?_; rintro e w' ⟨rfl, rfl⟩; rw [hvl]))
  go_cut [6] from 7 to 33 (fun s6 wx => ∃ X E, s6 = .pointer (some ⟨X, 0, none⟩) ∧ AoMid w W0 b o k P X E wx)
  case first =>
    go_region_held3 (fun w' => w'.cell? ⟨b, o, none⟩ = some (.int .i64 k) ∧ b < w'.heap.size ∧ Below W0.heap.size W0 w') (first | assumption | exact S00.out | exact oneDrew S00.out | exact one_alloc S00.out _ | exact oneDrew (one_alloc S00.out _) | exact one_alloc (one_alloc S00.out _) _ | exact oneDrew (one_alloc (one_alloc S00.out _) _))
      (first
        | (go_at_call 94; refine (HL.out _ (J1.out.belowS ‹_›)).mono ?_; rintro e w' ⟨rfl, rfl⟩)
        | fail)
    all_goals
      go_wp2_with fail
      go_meet
      first
        | exact ⟨_, _, rfl, aoMid_a z0 K0.out S00.out⟩
        | exact ⟨_, _, rfl, aoMid_b z0 K0.out S00.out⟩
  case rest =>
    obtain ⟨X, E, rfl, nXE, hX0, hE0, hXl, kx, oe, kr, s2⟩ := hcut
    have KX := Lib.hid kx
    have OE := Lib.hid oe
    have KR := Lib.hid kr
    have S2 := Lib.hid s2
    have x0 : wc.cell? ⟨X, 0, none⟩ = some (.int .i64 k) := kx.cell 0
    have x1 : wc.cell? ⟨X, 1, none⟩ = some (.slice (some ⟨E, 0, none⟩) 0 0) := kx.cell 1
    have x2 : wc.cell? ⟨X, 2, none⟩ = some (.string ⟨#[]⟩) := kx.cell 2
    have d2 : wc.cell? ⟨b, o, none⟩ = some (.int .i64 k) := s2.1
    have gX2 := kx.free 2
    have hbs := s2.2.2.size
    have BB : Hid (Below w.heap.size w wc) := Lib.hid (B0.out.trans (s2.2.2.mono (by omega)))
    clear kx oe kr s2 S00
    go_upto_if 37 with fail
    go_cut [] from 34 to 49 (fun wx => ∃ q, AoEnd w k P Q M X q wx)
    case first =>
      rcases HTH.out with rfl | rfl
      · have q1 : t.getD 0 0 = 1 := EKK.out
        have q2 : (t.drop 1).take 4 = Q := by rw [← EQ.out, aQ, if_pos q1]
        have q3 : ByteArray.empty = M := by rw [← EM.out, aM, if_pos q1]
        have hm5 : m = 5 := by
          rcases HKI.out with h | h
          · exact h.2
          · exact absurd (q1.symm.trans h.1) (by decide)
        obtain ⟨V2, hV2, j2⟩ := slice_part HS0.out rfl (l := 1) (h := 5) (by omega) (by omega) hc hm
        rw [show 5 - 1 = 4 by rfl, q2] at j2
        have hV2' : ∀ W : World, (Instr.slice 23 (.slice (some ⟨b, o, none⟩) t.length c) (some (.int .i64 1)) (some (.int .i64 5)) none).run Tryd.prog W = .ok V2 W := hV2
        have hQl : Q.length = 4 := by rw [← q2]; simp; omega
        have J2 := Lib.hid (j2.belowS S2.out)
        have HM := Lib.hid q3
        have HQL := Lib.hid hQl
        clear q1 q2 q3 hV2 j2 HKI EKK EQ EM hm5 hQl
        go_wp2_with fail
        refine region_tail 4 (by kernel_rfl) (by kernel_rfl) ?_
        simp only [List.take_succ_cons, List.take_zero, List.drop_succ_cons, List.drop_zero]
        repeat still_step
        refine wpStill_nil ?_
        go_wp2_with (at_builtin; go_loud (refine wp_ints rfl (.tmp 39) (.tmp 41) rfl rfl rfl OE.out.drew J2.out.drew (by have := HQL.out; simp; omega) (show w.heap.size + 1 ≤ wc.heap.size by omega) ?_); go_loud (intro v3 w3 o3 b3 g3 k3); go_loud (rw [List.nil_append] at o3); go_loud (obtain ⟨A3, c3, rfl, _, _, _⟩ := o3.form); go_loud (have KX3 := Lib.hid ((KX.out.drewN 1).grown g3 (by simp only [Value.ownBlock]; intro h; injection h with h; exact nXE h))); go_loud (have KR3 := Lib.hid ((KR.out.drewN 1).grown g3 (by simp only [Value.ownBlock]; intro h; injection h with h; dsimp only at h; omega))); go_loud (have fx := KX3.out.free 1); go_loud (have cx : w3.cell? ⟨X, 1, none⟩ = some (.slice (some ⟨E, 0, none⟩) 0 0) := KX3.out.cell 1))
        have nE3 : Value.ownBlock (.slice A3 Q.length c3) ≠ some X := by
          rcases k3 with h | h
          · rw [h]; simp only [Value.ownBlock]; intro h; injection h with h; exact nXE h.symm
          · rw [h]; intro h; injection h with h; have h : wc.heap.size = X := h; omega
        go_meet
        refine ⟨_, ?_, o3.farN (B := X) (i := 1) nE3 _, KR3.out.far (p := ⟨X, 1, none⟩) (show w.heap.size ≠ X by omega) _, (BB.out.drew.trans (b3.mono (Nat.le_succ _))).setCell (p := ⟨X, 1, none⟩) (show w.heap.size ≤ X by omega) _⟩
        rw [← HM.out]
        exact KX3.out.set_ 1 _
      · have q1 : ¬ t.getD 0 0 = 1 := by rw [EKK.out]; decide
        have q2 : [] = Q := by rw [← EQ.out, aQ, if_neg q1]
        have hm5 : m = 2 + (t.getD 1 0).toNat := by
          rcases HKI.out with h | h
          · exact absurd h.1 q1
          · exact h.2.1
        have q3 : strOfNums ((t.drop 2).take (m - 2)) = M := by rw [← EM.out, aM, if_neg q1, show m - 2 = (t.getD 1 0).toNat by omega]
        obtain ⟨V2, hV2, j2⟩ := slice_part HS0.out rfl (l := 2) (h := m) (by omega) (by omega) hc hm
        have hV2' : ∀ W : World, (Instr.slice 23 (.slice (some ⟨b, o, none⟩) t.length c) (some (.int .i64 2)) (some (.int .i64 (m : Int))) none).run Tryd.prog W = .ok V2 W := hV2
        have J2 := Lib.hid (j2.belowS S2.out)
        have hbt : Hid (∀ x ∈ (t.drop 2).take (m - 2), 0 ≤ x ∧ x ≤ 255) := Lib.hid fun x hx => bytes_of_valid hvl x (List.mem_of_mem_drop (List.mem_of_mem_take hx))
        have hlt : Hid (((t.drop 2).take (m - 2)).length ≤ 1000000000000) := Lib.hid (by simp; omega)
        have HM := Lib.hid q3
        have HQ := Lib.hid q2
        clear q1 q2 q3 hV2 j2 HKI EKK EQ EM hm5
        go_wp2_with fail
        refine (l1Bytes_any V2 _ _ J2.out hbt.out hlt.out).mono ?_
        rintro e w3 ⟨rfl, b3⟩
        rw [HM.out]
        have KX3 := Lib.hid (KX.out.kept b3)
        have KR3 := Lib.hid (KR.out.kept b3)
        have OE3 := Lib.hid (OE.out.below b3)
        have B3 := Lib.hid (BB.out.trans (b3.mono BB.out.size))
        have fx := KX3.out.free 2
        have cx : w3.cell? ⟨X, 2, none⟩ = some (.string ⟨#[]⟩) := KX3.out.cell 2
        clear b3
        go_wp2_with fail
        go_meet
        refine ⟨_, KX3.out.set_ 2 _, ?_, KR3.out.far (p := ⟨X, 2, none⟩) (show w.heap.size ≠ X by omega) _, B3.out.setCell (p := ⟨X, 2, none⟩) (show w.heap.size ≤ X by omega) _⟩
        rw [← HQ.out]
        exact OE3.out.farN (B := X) (i := 2) (by simp only [Value.ownBlock]; intro h; injection h with h; exact nXE h.symm) _
    case rest =>
      obtain ⟨q, kx, oq, kr, bw⟩ := hcut
      obtain ⟨A3, c3, rfl, _, _, _⟩ := oq.form
      have KX4 := Lib.hid kx
      have OQ := Lib.hid oq
      have KR4 := Lib.hid kr
      have BW := Lib.hid bw
      have y0 := kx.cell 0
      have y1 := kx.cell 1
      have y2 := kx.cell 2
      have y3 := kx.cell 3
      simp only [List.getElem?_toArray, List.getElem?_cons_zero, List.getElem?_cons_succ] at y0 y1 y2 y3
      have HMs : Hid (M.size < 4294967281) := Lib.hid (by
        rw [← EM.out]
        unfold aM
        split
        · decide
        · rw [str_length]; simp; omega)
      clear kx oq kr bw KX OE KR S2 x0 x1 x2 d2 gX2 HKI HTH
      go_wp2_with fail
      refine (spec_AddressValid_any k _ M P Q _ OQ.out.ints.zero HMs.out).mono ?_
      rintro e w5 ⟨rfl, b5⟩
      have KX5 := KX4.out.kept b5
      have KR5 := KR4.out.kept b5
      have O5 := Lib.hid (OQ.out.below b5)
      have B5 := Lib.hid (BW.out.trans (b5.mono BW.out.size))
      clear b5 y0 y1 y2 y3
      have y0 : w5.cell? ⟨X, 0, none⟩ = some (.int .i64 k) := KX5.cell 0
      have y1 : w5.cell? ⟨X, 1, none⟩ = some (.slice A3 Q.length c3) := KX5.cell 1
      have y2 : w5.cell? ⟨X, 2, none⟩ = some (.string M) := KX5.cell 2
      have y3 : w5.cell? ⟨X, 3, none⟩ = some (.int .i64 P) := KX5.cell 3
      have r0 : w5.cell? ⟨w.heap.size, 0, none⟩ = some (.int .i64 0) := KR5.cell 0
      have r1 : w5.cell? ⟨w.heap.size, 1, none⟩ = some (.slice none 0 0) := KR5.cell 1
      have r2 : w5.cell? ⟨w.heap.size, 2, none⟩ = some (.string .empty) := KR5.cell 2
      have r3 : w5.cell? ⟨w.heap.size, 3, none⟩ = some (.int .i64 0) := KR5.cell 3
      have f0 := KR5.free 0
      have f1 := KR5.free 1
      have f2 := KR5.free 2
      have f3 := KR5.free 3
      have n1 : w.heap.size ≠ X := by omega
      have n2 : X ≠ w.heap.size := by omega
      clear KX5 KR5 KX4 KR4 OQ BW
      cases hok : adOk k Q M P
      · have hao : aoOk t = false := EOK.out.trans hok
        obtain ⟨t1, t2⟩ := aoT_not hao
        have T1 := Lib.hid t1
        have T2 := Lib.hid t2
        clear t1 t2 hao hok
        go_wp2_with fail
        refine bodyPost_ret (v := .tuple #[.agg #[.int .i64 0, .slice none 0 0, .string .empty, .int .i64 0], .int .i64 0, .bool false]) (by simp [results, Tryd.results78, go_sem, r0, r1, r2, r3]; try rfl) rfl ?_
        exact ⟨_, by rw [T1.out], by rw [T2.out]; exact Own.nil_ _ _, below_st4 B5.out (Nat.le_refl _) _ _ _ _⟩
      · have hao : aoOk t = true := EOK.out.trans hok
        obtain ⟨t1, t2⟩ := EY.out hao
        have T1 := Lib.hid t1
        have T2 := Lib.hid t2
        clear t1 t2 hao hok
        go_wp2_with fail
        refine bodyPost_ret (v := .tuple #[.agg #[.int .i64 k, .slice A3 Q.length c3, .string M, .int .i64 P], .int .i64 ((m : Int) + 2), .bool true]) (by simp [results, Tryd.results78, go_sem, r0, r1, r2, r3]; try rfl) rfl ?_
        exact ⟨_, by rw [T1.out], by rw [T2.out]; exact (O5.out.st4 (by omega)).more (by omega), below_st4 B5.out (Nat.le_refl _) _ _ _ _⟩
end Go.Proofs.YtahlgdehfjjoeaaDoor

/-
  The reference's l3Size and AddressOf return plain functions of the bytes; the address lies in memory of the call's own. Conditions: the slice reads as a list of integers.
  The reference's AddressOf returns a plain function of the bytes; the address lies in memory of the call's own. Conditions: the slice reads as a list of integers.
  The reference's l12From, RequestFrom and ReplyFrom return the same plain functions of the bytes as the program's. Conditions: the slice reads as a list of integers.
  The reference's l12From, RequestFrom and ReplyFrom return the same plain functions of the bytes as the program's. Conditions: the slice reads as a list of integers.
  The reference's RequestFrom and ReplyFrom return the same plain functions of the bytes as the program's. Conditions: the slice reads as a list of integers.
-/
import Derived.Test.YtolbkdcnmkmncaaDoorRdAd
import Derived.Test.YtolbkdcnmkmncaaDoorTexts
import Derived.Test.YtolbkdcnmkmncaaDoorCodeBytes
import Derived.Test.YtolbkdcnmkmncaaDoorPk
import Derived.RegionTactic
import Derived.BigRegion
import Derived.Deep.RegionHeld3
import Derived.Test.YtolbkdcnmkmncaaDoorAdBytes
import Derived.Test.YtolbkdcnmkmncaaDoorAppend
import Derived.Deep.CutRange
import Derived.Test.YtolbkdcnmkmncaaDoorRf
namespace Go.Proofs.YtolbkdcnmkmncaaDoor
open Go.RowKit

def szL (t : List Int) : Int := if t.getD 0 0 = 1 then 7 else if t.getD 0 0 = 3 ∧ 2 ≤ t.length then wrap64 (4 + t.getD 1 0) else -1
set_option maxHeartbeats 1000000 in
theorem l3Size_any (v : Value) (t : List Int) (w : World) (hv : Ints w 0 v t) : Calls Tryd.prog 102 #[v] w fun e w' => e = .returned (.int .i64 (szL t)) ∧ w = w' := by
  obtain ⟨A, c, rfl, hc, hm, hA⟩ := hv.open_
  clear hv
  by_cases h0 : t.length = 0
  · have E : Hid (szL t = -1) := Lib.hid (by rw [List.eq_nil_of_length_eq_zero h0]; rfl)
    have h0' : (t.length : Int) = 0 := by omega
    clear hA h0
    go_enter Tryd.func102, Tryd.ntmps102
    go_wp2
    go_ret
    exact ⟨by rw [E.out]; rfl, rfl⟩
  obtain ⟨b, o, rfl, _, hb, hs⟩ := hA.resolve_left (fun h => by rw [h] at h0; simp at h0)
  have c0 := hs.int_at (j := 0) (by omega)
  rw [Nat.add_zero] at c0
  obtain ⟨x, hx⟩ : ∃ x, t.getD 0 0 = x := ⟨_, rfl⟩
  rw [hx] at c0
  have hp : (0 : Int) < (t.length : Int) := by omega
  by_cases h1 : x = 1
  · subst h1
    have E : Hid (szL t = 7) := Lib.hid (by rw [szL, hx]; rfl)
    clear hs hx h0
    go_enter Tryd.func102, Tryd.ntmps102
    go_wp2
    go_ret
    exact ⟨by rw [E.out]; rfl, rfl⟩
  have h1' : (x == 1) = false := by simpa using h1
  by_cases h2 : t.length = 1
  · have E : Hid (szL t = -1) := Lib.hid (by rw [szL, hx, if_neg h1, if_neg (by omega)])
    have h2' : ¬ (1 : Int) < (t.length : Int) := by omega
    clear hs hx h0 h1 h2
    go_enter Tryd.func102, Tryd.ntmps102
    go_wp2
    go_ret
    exact ⟨by rw [E.out]; rfl, rfl⟩
  have h2' : (1 : Int) < (t.length : Int) := by omega
  by_cases h3 : x = 3
  · subst h3
    have c1 := hs.int_at (j := 1) (by omega)
    obtain ⟨y, hy⟩ : ∃ y, t.getD 1 0 = y := ⟨_, rfl⟩
    rw [hy] at c1
    have E : Hid (szL t = wrap64 (4 + y)) := Lib.hid (by rw [szL, hx, if_neg h1, if_pos ⟨rfl, by omega⟩, hy])
    clear hs hx h0 h1 hy h2
    go_enter Tryd.func102, Tryd.ntmps102
    go_wp2
    go_ret
    exact ⟨by rw [E.out]; rfl, rfl⟩
  · have E : Hid (szL t = -1) := Lib.hid (by rw [szL, hx, if_neg h1, if_neg (fun h => h3 h.1)])
    have h3' : (x == 3) = false := by simpa using h3
    clear hs hx h0 h1 h2 h3
    go_enter Tryd.func102, Tryd.ntmps102
    go_wp2
    go_ret
    exact ⟨by rw [E.out]; rfl, rfl⟩

/-- Valid bytes begin with an address. -/
def aoOk (t : List Int) : Bool := validL t && afOk t
/-- An address, its size and a verdict. -/
def AoT (b : Bool) (t : List Int) (q : Value) : Value := .tuple #[.agg #[.int .i64 (if b = true then t.getD 0 0 else 0), q, .string (if b = true then aM t else ByteArray.empty), .int .i64 (if b = true then aP t else 0)], .int .i64 (if b = true then (aN t : Int) else 0), .bool b]
def GaveAo (w : World) (b : Bool) (t : List Int) (e : Ending) (w' : World) : Prop := ∃ q, e = .returned (AoT b t q) ∧ Own w' w.heap.size q (if b = true then aQ t else []) ∧ Below w.heap.size w w'
theorem aoT_not {t : List Int} (h : aoOk t = false) : (∀ q, AoT (aoOk t) t q = .tuple #[.agg #[.int .i64 0, q, .string .empty, .int .i64 0], .int .i64 0, .bool false]) ∧ (if aoOk t = true then aQ t else []) = [] := by
  rw [h]; exact ⟨fun _ => rfl, rfl⟩
theorem aoT_yes {t : List Int} (h : aoOk t = true) : (∀ q, AoT (aoOk t) t q = .tuple #[.agg #[.int .i64 (t.getD 0 0), q, .string (aM t), .int .i64 (aP t)], .int .i64 (aN t : Int), .bool true]) ∧ (if aoOk t = true then aQ t else []) = aQ t := by
  rw [h]; exact ⟨fun _ => rfl, rfl⟩

set_option maxRecDepth 100000 in
set_option maxHeartbeats 2000000 in
/-- The ways that end ahead of the address: invalid bytes, or too few. -/
theorem spec_AddressOf_not (v : Value) (t : List Int) (w : World) (hv : Ints w 0 v t) (h : validL t = false ∨ szL t < 0 ∨ (t.length : Int) < szL t) (hE : aoOk t = false) :
    Calls Tryd.prog 76 #[v] w fun e w' => GaveAo w (aoOk t) t e w' := by
  have HV := Lib.hid hv
  obtain ⟨t1, t2⟩ := aoT_not hE
  have T1 := Lib.hid t1
  have T2 := Lib.hid t2
  obtain ⟨A, c, rfl, hc, hm, _⟩ := hv.open_
  obtain ⟨V, hV⟩ : ∃ V, w.alloc (.cells #[.int .i64 0, .slice none 0 0, .string ⟨#[]⟩, .int .i64 0] 26) = V := ⟨_, rfl⟩
  have K : Hid (Blk V w.heap.size 26 #[.int .i64 0, .slice none 0 0, .string .empty, .int .i64 0]) := Lib.hid (by rw [← hV]; exact Blk.new _ _ _)
  have B : Hid (Below w.heap.size w V) := Lib.hid (by rw [← hV]; exact (Below.refl _ _).alloc (Nat.le_refl _) _)
  have I : Hid (Ints V 0 (.slice A t.length c) t) := Lib.hid (by rw [← hV]; exact HV.out.alloc _)
  have r0 : V.cell? ⟨w.heap.size, 0, none⟩ = some (.int .i64 0) := K.out.cell 0
  have r1 : V.cell? ⟨w.heap.size, 1, none⟩ = some (.slice none 0 0) := K.out.cell 1
  have r2 : V.cell? ⟨w.heap.size, 2, none⟩ = some (.string .empty) := K.out.cell 2
  have r3 : V.cell? ⟨w.heap.size, 3, none⟩ = some (.int .i64 0) := K.out.cell 3
  have f0 := K.out.free 0
  have f1 := K.out.free 1
  have f2 := K.out.free 2
  have f3 := K.out.free 3
  obtain ⟨n, hn⟩ : ∃ n, szL t = n := ⟨_, rfl⟩
  have EN := Lib.hid hn
  rw [hn] at h
  clear hv hE t1 t2 hn
  cases hvl : validL t
  · go_enter Tryd.func76, Tryd.ntmps76
    go_wp2_with (first | (go_at_call 102; refine (l3Size_any _ t _ I.out).mono ?_; rintro e w' ⟨rfl, rfl⟩; rw [EN.out]) | (go_at_call 75; refine (spec_BytesValid_any _ t _ I.out).mono ?_; rintro e w' ⟨rfl, rfl⟩; rw [hvl]))
    refine bodyPost_ret (v := .tuple #[.agg #[.int .i64 0, .slice none 0 0, .string .empty, .int .i64 0], .int .i64 0, .bool false]) (by simp [results, Tryd.results76, go_sem, r0, r1, r2, r3]; try rfl) rfl ?_
    exact ⟨_, by rw [T1.out], by rw [T2.out]; exact Own.nil_ _ _, below_st4 B.out (Nat.le_refl _) _ _ _ _⟩
  · rcases h with h | h | h
    · rw [hvl] at h; cases h
    · go_enter Tryd.func76, Tryd.ntmps76
      go_wp2_with (first | (go_at_call 102; refine (l3Size_any _ t _ I.out).mono ?_; rintro e w' ⟨rfl, rfl⟩; rw [EN.out]) | (go_at_call 75; refine (spec_BytesValid_any _ t _ I.out).mono ?_; rintro e w' ⟨rfl, rfl⟩; rw [hvl]))
      refine bodyPost_ret (v := .tuple #[.agg #[.int .i64 0, .slice none 0 0, .string .empty, .int .i64 0], .int .i64 0, .bool false]) (by simp [results, Tryd.results76, go_sem, r0, r1, r2, r3]; try rfl) rfl ?_
      exact ⟨_, by rw [T1.out], by rw [T2.out]; exact Own.nil_ _ _, below_st4 B.out (Nat.le_refl _) _ _ _ _⟩
    · have hneg' : 0 ≤ n := by omega
      go_enter Tryd.func76, Tryd.ntmps76
      go_wp2_with (first | (go_at_call 102; refine (l3Size_any _ t _ I.out).mono ?_; rintro e w' ⟨rfl, rfl⟩; rw [EN.out]) | (go_at_call 75; refine (spec_BytesValid_any _ t _ I.out).mono ?_; rintro e w' ⟨rfl, rfl⟩; rw [hvl]))
      refine bodyPost_ret (v := .tuple #[.agg #[.int .i64 0, .slice none 0 0, .string .empty, .int .i64 0], .int .i64 0, .bool false]) (by simp [results, Tryd.results76, go_sem, r0, r1, r2, r3]; try rfl) rfl ?_
      exact ⟨_, by rw [T1.out], by rw [T2.out]; exact Own.nil_ _ _, below_st4 B.out (Nat.le_refl _) _ _ _ _⟩
end Go.Proofs.YtolbkdcnmkmncaaDoor
namespace Go.Proofs.YtolbkdcnmkmncaaDoor
open Go.RowKit

theorem belowA {w W : World} (h : Below w.heap.size w W) (o : Obj) : Below w.heap.size w (W.alloc o) := h.alloc h.size o
theorem oneDrew {w W : World} {B i : Nat} {x : Value} (h : W.cell? ⟨B, i, none⟩ = some x ∧ B < W.heap.size ∧ Below w.heap.size w W) : W.drew.cell? ⟨B, i, none⟩ = some x ∧ B < W.drew.heap.size ∧ Below w.heap.size w W.drew := ⟨h.1, h.2.1, h.2.2.drew⟩
theorem Ints.belowS {w W : World} {lo B i : Nat} {v x : Value} {zs : List Int} (h : Ints w lo v zs) (hs : W.cell? ⟨B, i, none⟩ = some x ∧ B < W.heap.size ∧ Below w.heap.size w W) : Ints W lo v zs := h.below hs.2.2
theorem Blk.newAt {W : World} {t : TypeId} {cs : Array Value} {g : Nat} (hg : g = W.heap.size) : Blk (W.alloc (.cells cs t)) g t cs := by
  subst hg
  exact Blk.new W t cs
theorem take_two {zs : List Int} {p : Nat} (h : p + 2 ≤ zs.length) : (zs.drop p).take 2 = [zs.getD p 0, zs.getD (p + 1) 0] := by
  rw [List.drop_eq_getElem_cons (by omega : p < zs.length), List.take_succ_cons, List.drop_eq_getElem_cons (by omega : p + 1 < zs.length), List.take_succ_cons, List.take_zero]
  simp [List.getD, (by omega : p < zs.length), (by omega : p + 1 < zs.length)]

/-- What the struct's own statement leaves: the struct in block X, its empty quad in block E. -/
def AoMid (w W0 : World) (b o : Nat) (k P : Int) (X E : Nat) (wx : World) : Prop :=
  X ≠ E ∧ w.heap.size + 1 ≤ X ∧ w.heap.size + 1 ≤ E ∧ X < wx.heap.size ∧ Blk wx X 26 #[.int .i64 k, .slice (some ⟨E, 0, none⟩) 0 0, .string ⟨#[]⟩, .int .i64 P] ∧ Own wx (w.heap.size + 1) (.slice (some ⟨E, 0, none⟩) 0 0) [] ∧
    Blk wx w.heap.size 26 #[.int .i64 0, .slice none 0 0, .string .empty, .int .i64 0] ∧ wx.cell? ⟨b, o, none⟩ = some (.int .i64 k) ∧ b < wx.heap.size ∧ Below W0.heap.size W0 wx
/-- The struct is filled. -/
def AoEnd (w : World) (k P : Int) (Q : List Int) (M : ByteArray) (X : Nat) (q : Value) (wx : World) : Prop :=
  Blk wx X 26 #[.int .i64 k, q, .string M, .int .i64 P] ∧ Own wx (w.heap.size + 1) q Q ∧ Blk wx w.heap.size 26 #[.int .i64 0, .slice none 0 0, .string .empty, .int .i64 0] ∧ Below w.heap.size w wx
theorem aoMid_a {w W0 : World} {b o : Nat} {k P : Int} (z0 : W0.heap.size = w.heap.size + 1) (K0 : Blk W0 w.heap.size 26 #[.int .i64 0, .slice none 0 0, .string .empty, .int .i64 0])
    (S : W0.cell? ⟨b, o, none⟩ = some (.int .i64 k) ∧ b < W0.heap.size ∧ Below W0.heap.size W0 W0) :
    AoMid w W0 b o k P (w.heap.size + 1 + 1) (w.heap.size + 1) (((W0.alloc (.cells #[] 3)).alloc (.cells #[.int .i64 k, .slice (some ⟨w.heap.size + 1, 0, none⟩) 0 0, .string ⟨#[]⟩, .int .i64 P] 26)).drew) := by
  refine ⟨by omega, by omega, by omega, ?_, ?_, ?_, ?_, ?_⟩
  · show _ < (World.alloc _ _).heap.size
    simp [z0]
  · exact Blk.newAt (by simp [z0])
  · exact (Own.lit_0 z0.symm (by omega)).alloc _
  · exact (K0.alloc _).alloc _
  · exact oneDrew (one_alloc (one_alloc S _) _)
theorem aoMid_b {w W0 : World} {b o : Nat} {k P : Int} (z0 : W0.heap.size = w.heap.size + 1) (K0 : Blk W0 w.heap.size 26 #[.int .i64 0, .slice none 0 0, .string .empty, .int .i64 0])
    (S : W0.cell? ⟨b, o, none⟩ = some (.int .i64 k) ∧ b < W0.heap.size ∧ Below W0.heap.size W0 W0) :
    AoMid w W0 b o k P (w.heap.size + 1) (w.heap.size + 1 + 1) (((W0.alloc (.cells #[.int .i64 k, .slice (some ⟨w.heap.size + 1 + 1, 0, none⟩) 0 0, .string ⟨#[]⟩, .int .i64 P] 26)).alloc (.cells #[] 3)).drew) := by
  refine ⟨by omega, by omega, by omega, ?_, ?_, ?_, ?_, ?_⟩
  · show _ < (World.alloc _ _).heap.size
    simp [z0]
  · exact (Blk.newAt z0.symm).alloc _
  · exact Own.lit_0 (by simp [z0]) (by simp [z0])
  · exact (K0.alloc _).alloc _
  · exact oneDrew (one_alloc (one_alloc S _) _)
/-- The struct's cells and the bytes agree. -/
theorem ao_ok {t : List Int} {k P : Int} {Q : List Int} {M : ByteArray} (hvl : validL t = true) (hin : aIn t = true) (h0 : t.getD 0 0 = k) (h1 : aQ t = Q) (h2 : aM t = M) (h3 : aP t = P) : aoOk t = adOk k Q M P := by
  rw [aoOk, afOk, hvl, hin, h0, h1, h2, h3]
  simp
theorem ao_yes {t : List Int} {k P : Int} {Q : List Int} {M : ByteArray} {m : Nat} (h0 : t.getD 0 0 = k) (h1 : aQ t = Q) (h2 : aM t = M) (h3 : aP t = P) (h4 : aN t = m + 2) (h : aoOk t = true) :
    (∀ q, AoT (aoOk t) t q = .tuple #[.agg #[.int .i64 k, q, .string M, .int .i64 P], .int .i64 ((m : Int) + 2), .bool true]) ∧ (if aoOk t = true then aQ t else []) = Q := by
  rw [h]
  refine ⟨fun q => ?_, by simpa using h1⟩
  unfold AoT
  rw [h0, h2, h3, h4]
  simp
theorem ao_nums {t : List Int} (hvl : validL t = true) (hin : aIn t = true) : ∃ m, aN t = m + 2 ∧ 2 ≤ m ∧ m + 2 ≤ t.length ∧ t.length ≤ 120 ∧ szL t = (m : Int) + 2 ∧ (t.getD 0 0 = 1 ∧ m = 5 ∨ t.getD 0 0 = 3 ∧ m = 2 + (t.getD 1 0).toNat ∧ 2 ≤ t.length) := by
  have hbv := bytes_of_valid hvl
  have hl := validL_len hvl
  simp only [aIn, Bool.and_eq_true, Bool.or_eq_true, decide_eq_true_eq] at hin
  obtain ⟨hk, hnl⟩ := hin
  rcases hk with h | ⟨h, h2⟩
  · have e : aN t = 7 := by rw [aN, if_pos h]
    rw [e] at hnl
    refine ⟨5, e, by omega, hnl, hl, ?_, .inl ⟨h, rfl⟩⟩
    rw [szL, if_pos h]; rfl
  · have h1 : ¬ t.getD 0 0 = 1 := by omega
    have e : aN t = 4 + (t.getD 1 0).toNat := by rw [aN, if_neg h1]
    rw [e] at hnl
    have b1 := hbv (t.getD 1 0) (by simp [List.getD, (by omega : 1 < t.length)])
    refine ⟨2 + (t.getD 1 0).toNat, by omega, by omega, by omega, hl, ?_, .inr ⟨h, rfl, h2⟩⟩
    rw [szL, if_neg h1, if_pos ⟨h, h2⟩, IntWalk.wrap64_in _ (by omega)]
    omega
theorem m_facts {m L : Nat} (h : m + 2 ≤ L) (hL : L ≤ 120) : (m : Int) + 2 - 2 = (m : Int) ∧ IntKind.i64.wrap (m : Int) = (m : Int) ∧ wrap64 (m : Int) = (m : Int) ∧ ¬ (L : Int) < (m : Int) + 2 ∧ ¬ (m : Int) + 2 < 0 ∧ 0 < L ∧ (0 : Int) < (L : Int) :=
  ⟨by omega, IntWalk.i64_in _ (by omega), IntWalk.wrap64_in _ (by omega), by omega, by omega, by omega, by omega⟩

set_option maxRecDepth 100000 in
set_option maxHeartbeats 1000000 in
theorem spec_AddressOf_in (v : Value) (t : List Int) (w : World) (hv : Ints w 0 v t) (hvl : validL t = true) (hin : aIn t = true) :
    Calls Tryd.prog 76 #[v] w fun e w' => GaveAo w (aoOk t) t e w' := by
  have HV := Lib.hid hv
  obtain ⟨A, c, rfl, hc, hm, hA⟩ := hv.open_
  obtain ⟨m, hn, hm2, hnl, hl120, hsz, hk⟩ := ao_nums hvl hin
  have hbv := bytes_of_valid hvl
  have HKI := Lib.hid hk
  obtain ⟨k, hkk⟩ : ∃ k, t.getD 0 0 = k := ⟨_, rfl⟩
  have hk2 : k = 1 ∨ k = 3 := by
    rw [hkk] at hk
    rcases hk with h | h
    · exact .inl h.1
    · exact .inr h.1
  obtain ⟨b, o, rfl, _, hb, hs⟩ := hA.resolve_left (fun h => by rw [h] at hnl; simp at hnl)
  have c0 := hs.int_at (j := 0) (by omega)
  rw [Nat.add_zero, hkk] at c0
  have hx := hbv (t.getD m 0) (by simp [List.getD, (by omega : m < t.length)])
  have hy := hbv (t.getD (m + 1) 0) (by simp [List.getD, (by omega : m + 1 < t.length)])
  obtain ⟨P, hP⟩ : ∃ P, 256 * t.getD m 0 + t.getD (m + 1) 0 = P := ⟨_, rfl⟩
  have eP : Hid (aP t = P) := Lib.hid (by rw [aP, hn, ← hP]; rfl)
  obtain ⟨W0, hW0⟩ : ∃ W0, w.alloc (.cells #[.int .i64 0, .slice none 0 0, .string ⟨#[]⟩, .int .i64 0] 26) = W0 := ⟨_, rfl⟩
  have K0 : Hid (Blk W0 w.heap.size 26 #[.int .i64 0, .slice none 0 0, .string .empty, .int .i64 0]) := Lib.hid (by rw [← hW0]; exact Blk.new _ _ _)
  have B0 : Hid (Below w.heap.size w W0) := Lib.hid (by rw [← hW0]; exact (Below.refl _ _).alloc (Nat.le_refl _) _)
  have I0 : Hid (Ints W0 0 (.slice (some ⟨b, o, none⟩) t.length c) t) := Lib.hid (by rw [← hW0]; exact HV.out.alloc _)
  have S0 : Seg W0 3 b o (iv t) := by rw [← hW0]; exact hs.alloc _
  have z0 : W0.heap.size = w.heap.size + 1 := by rw [← hW0]; simp
  obtain ⟨V1, hV1, j1⟩ := slice_part S0 rfl (l := m) (h := m + 2) (by omega) (by omega) hc hm
  rw [show m + 2 - m = 2 by omega, take_two (by omega)] at j1
  have J1 := Lib.hid j1
  have HL : Hid (∀ W, Ints W 0 V1 [t.getD m 0, t.getD (m + 1) 0] → Calls Tryd.prog 103 #[V1] W fun e w' => e = .returned (.int .i64 P) ∧ W = w') := Lib.hid fun W h => by rw [← hP]; exact l1Of_any V1 _ _ W h hx hy
  have EN := Lib.hid hsz
  have d0 : W0.cell? ⟨b, o, none⟩ = some (.int .i64 k) := by rw [← hW0]; exact (World.cell?_alloc_lt w _ ⟨b, o, none⟩ hb).trans c0
  obtain ⟨e2, w1, w2, hle, hnn, htl, htl'⟩ := m_facts hnl hl120
  simp only [Int.natCast_add, Int.cast_ofNat_Int] at hV1
  have HS0 := Lib.hid S0
  have EKK := Lib.hid hkk
  clear hs c0 hx hy hP hk hbv hkk hv hA S0
  have hbW : b < W0.heap.size := by omega
  have S00 : Hid (W0.cell? ⟨b, o, none⟩ = some (.int .i64 k) ∧ b < W0.heap.size ∧ Below W0.heap.size W0 W0) := Lib.hid ⟨d0, hbW, Below.refl _ _⟩
  obtain ⟨Q, hQ⟩ : ∃ Q, aQ t = Q := ⟨_, rfl⟩
  obtain ⟨M, hM⟩ : ∃ M, aM t = M := ⟨_, rfl⟩
  have EOK := Lib.hid (ao_ok hvl hin EKK.out hQ hM eP.out)
  have EY := Lib.hid (fun h => ao_yes EKK.out hQ hM eP.out hn h)
  have EQ := Lib.hid hQ
  have EM := Lib.hid hM
  have HTH := Lib.hid hk2
  clear hQ hM hk2
  go_enter Tryd.func76, Tryd.ntmps76
  go_upto_region 4 with (first | (go_at_call 102; refine (l3Size_any _ t _ I0.out).mono ?_; rintro e w' ⟨rfl, rfl⟩; rw [EN.out]) | (go_at_call 75; refine (spec_BytesValid_any _ t _ I0.out).mono ?_; rintro e w' ⟨rfl, rfl⟩; rw [hvl]))
  go_cut [6] from 7 to 33 (fun s6 wx => ∃ X E, s6 = .pointer (some ⟨X, 0, none⟩) ∧ AoMid w W0 b o k P X E wx)
  case first =>
    go_region_held3 (fun w' => w'.cell? ⟨b, o, none⟩ = some (.int .i64 k) ∧ b < w'.heap.size ∧ Below W0.heap.size W0 w') (first | assumption | exact S00.out | exact oneDrew S00.out | exact one_alloc S00.out _ | exact oneDrew (one_alloc S00.out _) | exact one_alloc (one_alloc S00.out _) _ | exact oneDrew (one_alloc (one_alloc S00.out _) _))
      (first
        | (go_at_call 103; refine (HL.out _ (J1.out.belowS ‹_›)).mono ?_; rintro e w' ⟨rfl, rfl⟩)
        | fail)
    all_goals
      go_wp2_with fail
      go_meet
      first
        | exact ⟨_, _, rfl, aoMid_a z0 K0.out S00.out⟩
        | exact ⟨_, _, rfl, aoMid_b z0 K0.out S00.out⟩
  case rest =>
    obtain ⟨X, E, rfl, nXE, hX0, hE0, hXl, kx, oe, kr, s2⟩ := hcut
    have KX := Lib.hid kx
    have OE := Lib.hid oe
    have KR := Lib.hid kr
    have S2 := Lib.hid s2
    have x0 : wc.cell? ⟨X, 0, none⟩ = some (.int .i64 k) := kx.cell 0
    have x1 : wc.cell? ⟨X, 1, none⟩ = some (.slice (some ⟨E, 0, none⟩) 0 0) := kx.cell 1
    have x2 : wc.cell? ⟨X, 2, none⟩ = some (.string ⟨#[]⟩) := kx.cell 2
    have d2 : wc.cell? ⟨b, o, none⟩ = some (.int .i64 k) := s2.1
    have gX2 := kx.free 2
    have hbs := s2.2.2.size
    have BB : Hid (Below w.heap.size w wc) := Lib.hid (B0.out.trans (s2.2.2.mono (by omega)))
    clear kx oe kr s2 S00
    go_upto_if 37 with fail
    go_cut [] from 34 to 49 (fun wx => ∃ q, AoEnd w k P Q M X q wx)
    case first =>
      rcases HTH.out with rfl | rfl
      · have q1 : t.getD 0 0 = 1 := EKK.out
        have q2 : (t.drop 1).take 4 = Q := by rw [← EQ.out, aQ, if_pos q1]
        have q3 : ByteArray.empty = M := by rw [← EM.out, aM, if_pos q1]
        have hm5 : m = 5 := by
          rcases HKI.out with h | h
          · exact h.2
          · exact absurd (q1.symm.trans h.1) (by decide)
        obtain ⟨V2, hV2, j2⟩ := slice_part HS0.out rfl (l := 1) (h := 5) (by omega) (by omega) hc hm
        rw [show 5 - 1 = 4 by rfl, q2] at j2
        have hV2' : ∀ W : World, (Instr.slice 23 (.slice (some ⟨b, o, none⟩) t.length c) (some (.int .i64 1)) (some (.int .i64 5)) none).run Tryd.prog W = .ok V2 W := hV2
        have hQl : Q.length = 4 := by rw [← q2]; simp; omega
        have J2 := Lib.hid (j2.belowS S2.out)
        have HM := Lib.hid q3
        have HQL := Lib.hid hQl
        clear q1 q2 q3 hV2 j2 HKI EKK EQ EM hm5 hQl
        go_wp2_with fail
        refine region_tail 4 (by kernel_rfl) (by kernel_rfl) ?_
        simp only [List.take_succ_cons, List.take_zero, List.drop_succ_cons, List.drop_zero]
        repeat still_step
        refine wpStill_nil ?_
        go_wp2_with (at_builtin; go_loud (refine wp_ints rfl (.tmp 39) (.tmp 41) rfl rfl rfl OE.out.drew J2.out.drew (by have := HQL.out; simp; omega) (show w.heap.size + 1 ≤ wc.heap.size by omega) ?_); go_loud (intro v3 w3 o3 b3 g3 k3); go_loud (rw [List.nil_append] at o3); go_loud (obtain ⟨A3, c3, rfl, _, _, _⟩ := o3.form); go_loud (have KX3 := Lib.hid ((KX.out.drewN 1).grown g3 (by simp only [Value.ownBlock]; intro h; injection h with h; exact nXE h))); go_loud (have KR3 := Lib.hid ((KR.out.drewN 1).grown g3 (by simp only [Value.ownBlock]; intro h; injection h with h; dsimp only at h; omega))); go_loud (have fx := KX3.out.free 1); go_loud (have cx : w3.cell? ⟨X, 1, none⟩ = some (.slice (some ⟨E, 0, none⟩) 0 0) := KX3.out.cell 1))
        have nE3 : Value.ownBlock (.slice A3 Q.length c3) ≠ some X := by
          rcases k3 with h | h
          · rw [h]; simp only [Value.ownBlock]; intro h; injection h with h; exact nXE h.symm
          · rw [h]; intro h; injection h with h; have h : wc.heap.size = X := h; omega
        go_meet
        refine ⟨_, ?_, o3.farN (B := X) (i := 1) nE3 _, KR3.out.far (p := ⟨X, 1, none⟩) (show w.heap.size ≠ X by omega) _, (BB.out.drew.trans (b3.mono (Nat.le_succ _))).setCell (p := ⟨X, 1, none⟩) (show w.heap.size ≤ X by omega) _⟩
        rw [← HM.out]
        exact KX3.out.set_ 1 _
      · have q1 : ¬ t.getD 0 0 = 1 := by rw [EKK.out]; decide
        have q2 : [] = Q := by rw [← EQ.out, aQ, if_neg q1]
        have hm5 : m = 2 + (t.getD 1 0).toNat := by
          rcases HKI.out with h | h
          · exact absurd h.1 q1
          · exact h.2.1
        have q3 : strOfNums ((t.drop 2).take (m - 2)) = M := by rw [← EM.out, aM, if_neg q1, show m - 2 = (t.getD 1 0).toNat by omega]
        obtain ⟨V2, hV2, j2⟩ := slice_part HS0.out rfl (l := 2) (h := m) (by omega) (by omega) hc hm
        have hV2' : ∀ W : World, (Instr.slice 23 (.slice (some ⟨b, o, none⟩) t.length c) (some (.int .i64 2)) (some (.int .i64 (m : Int))) none).run Tryd.prog W = .ok V2 W := hV2
        have J2 := Lib.hid (j2.belowS S2.out)
        have hbt : Hid (∀ x ∈ (t.drop 2).take (m - 2), 0 ≤ x ∧ x ≤ 255) := Lib.hid fun x hx => bytes_of_valid hvl x (List.mem_of_mem_drop (List.mem_of_mem_take hx))
        have hlt : Hid (((t.drop 2).take (m - 2)).length ≤ 1000000000000) := Lib.hid (by simp; omega)
        have HM := Lib.hid q3
        have HQ := Lib.hid q2
        clear q1 q2 q3 hV2 j2 HKI EKK EQ EM hm5
        go_wp2_with fail
        refine (l1Bytes_any V2 _ _ J2.out hbt.out hlt.out).mono ?_
        rintro e w3 ⟨rfl, b3⟩
        rw [HM.out]
        have KX3 := Lib.hid (KX.out.kept b3)
        have KR3 := Lib.hid (KR.out.kept b3)
        have OE3 := Lib.hid (OE.out.below b3)
        have B3 := Lib.hid (BB.out.trans (b3.mono BB.out.size))
        have fx := KX3.out.free 2
        have cx : w3.cell? ⟨X, 2, none⟩ = some (.string ⟨#[]⟩) := KX3.out.cell 2
        clear b3
        go_wp2_with fail
        go_meet
        refine ⟨_, KX3.out.set_ 2 _, ?_, KR3.out.far (p := ⟨X, 2, none⟩) (show w.heap.size ≠ X by omega) _, B3.out.setCell (p := ⟨X, 2, none⟩) (show w.heap.size ≤ X by omega) _⟩
        rw [← HQ.out]
        exact OE3.out.farN (B := X) (i := 2) (by simp only [Value.ownBlock]; intro h; injection h with h; exact nXE h.symm) _
    case rest =>
      obtain ⟨q, kx, oq, kr, bw⟩ := hcut
      obtain ⟨A3, c3, rfl, _, _, _⟩ := oq.form
      have KX4 := Lib.hid kx
      have OQ := Lib.hid oq
      have KR4 := Lib.hid kr
      have BW := Lib.hid bw
      have y0 := kx.cell 0
      have y1 := kx.cell 1
      have y2 := kx.cell 2
      have y3 := kx.cell 3
      simp only [List.getElem?_toArray, List.getElem?_cons_zero, List.getElem?_cons_succ] at y0 y1 y2 y3
      have HMs : Hid (M.size < 4294967281) := Lib.hid (by
        rw [← EM.out]
        unfold aM
        split
        · decide
        · rw [str_length]; simp; omega)
      clear kx oq kr bw KX OE KR S2 x0 x1 x2 d2 gX2 HKI HTH
      go_wp2_with fail
      refine (spec_AddressValid_any k _ M P Q _ OQ.out.ints.zero HMs.out).mono ?_
      rintro e w5 ⟨rfl, b5⟩
      have KX5 := KX4.out.kept b5
      have KR5 := KR4.out.kept b5
      have O5 := Lib.hid (OQ.out.below b5)
      have B5 := Lib.hid (BW.out.trans (b5.mono BW.out.size))
      clear b5 y0 y1 y2 y3
      have y0 : w5.cell? ⟨X, 0, none⟩ = some (.int .i64 k) := KX5.cell 0
      have y1 : w5.cell? ⟨X, 1, none⟩ = some (.slice A3 Q.length c3) := KX5.cell 1
      have y2 : w5.cell? ⟨X, 2, none⟩ = some (.string M) := KX5.cell 2
      have y3 : w5.cell? ⟨X, 3, none⟩ = some (.int .i64 P) := KX5.cell 3
      have r0 : w5.cell? ⟨w.heap.size, 0, none⟩ = some (.int .i64 0) := KR5.cell 0
      have r1 : w5.cell? ⟨w.heap.size, 1, none⟩ = some (.slice none 0 0) := KR5.cell 1
      have r2 : w5.cell? ⟨w.heap.size, 2, none⟩ = some (.string .empty) := KR5.cell 2
      have r3 : w5.cell? ⟨w.heap.size, 3, none⟩ = some (.int .i64 0) := KR5.cell 3
      have f0 := KR5.free 0
      have f1 := KR5.free 1
      have f2 := KR5.free 2
      have f3 := KR5.free 3
      have n1 : w.heap.size ≠ X := by omega
      have n2 : X ≠ w.heap.size := by omega
      clear KX5 KR5 KX4 KR4 OQ BW
      cases hok : adOk k Q M P
      · have hao : aoOk t = false := EOK.out.trans hok
        obtain ⟨t1, t2⟩ := aoT_not hao
        have T1 := Lib.hid t1
        have T2 := Lib.hid t2
        clear t1 t2 hao hok
        go_wp2_with fail
        refine bodyPost_ret (v := .tuple #[.agg #[.int .i64 0, .slice none 0 0, .string .empty, .int .i64 0], .int .i64 0, .bool false]) (by simp [results, Tryd.results76, go_sem, r0, r1, r2, r3]; try rfl) rfl ?_
        exact ⟨_, by rw [T1.out], by rw [T2.out]; exact Own.nil_ _ _, below_st4 B5.out (Nat.le_refl _) _ _ _ _⟩
      · have hao : aoOk t = true := EOK.out.trans hok
        obtain ⟨t1, t2⟩ := EY.out hao
        have T1 := Lib.hid t1
        have T2 := Lib.hid t2
        clear t1 t2 hao hok
        go_wp2_with fail
        refine bodyPost_ret (v := .tuple #[.agg #[.int .i64 k, .slice A3 Q.length c3, .string M, .int .i64 P], .int .i64 ((m : Int) + 2), .bool true]) (by simp [results, Tryd.results76, go_sem, r0, r1, r2, r3]; try rfl) rfl ?_
        exact ⟨_, by rw [T1.out], by rw [T2.out]; exact (O5.out.st4 (by omega)).more (by omega), below_st4 B5.out (Nat.le_refl _) _ _ _ _⟩
end Go.Proofs.YtolbkdcnmkmncaaDoor
namespace Go.Proofs.YtolbkdcnmkmncaaDoor
open Go.RowKit

theorem sz_of_not_in {t : List Int} (hvl : validL t = true) (hin : aIn t = false) : szL t < 0 ∨ (t.length : Int) < szL t := by
  have hbv := bytes_of_valid hvl
  by_cases h1 : t.getD 0 0 = 1
  · right
    rw [szL, if_pos h1]
    have e : aN t = 7 := by rw [aN, if_pos h1]
    rw [aIn, e, decide_eq_true h1] at hin
    simp at hin
    omega
  · by_cases h3 : t.getD 0 0 = 3 ∧ 2 ≤ t.length
    · right
      have b1 := hbv (t.getD 1 0) (by simp [List.getD, (by omega : 1 < t.length)])
      have e : aN t = 4 + (t.getD 1 0).toNat := by rw [aN, if_neg h1]
      rw [aIn, e, decide_eq_true h3.1, decide_eq_true h3.2] at hin
      have hin' : ¬ 4 + (t.getD 1 0).toNat ≤ t.length := by
        intro h
        rw [decide_eq_true h] at hin
        simp at hin
      rw [szL, if_neg h1, if_pos h3, IntWalk.wrap64_in _ (by omega)]
      omega
    · left
      rw [szL, if_neg h1, if_neg h3]
      omega
theorem spec_AddressOf_any (v : Value) (t : List Int) (w : World) (hv : Ints w 0 v t) : Calls Tryd.prog 76 #[v] w fun e w' => GaveAo w (aoOk t) t e w' := by
  cases hvl : validL t
  · have hE : aoOk t = false := by rw [aoOk, hvl]; rfl
    exact spec_AddressOf_not v t w hv (.inl hvl) hE
  · cases hin : aIn t
    · have hE : aoOk t = false := by rw [aoOk, afOk, hin]; simp
      exact spec_AddressOf_not v t w hv (.inr (sz_of_not_in hvl hin)) hE
    · exact spec_AddressOf_in v t w hv hvl hin

theorem cfT_not {zs : List Int} (h : cfOk zs = false) : (∀ q, EfT (cfOk zs) zs q = .tuple #[.int .i64 0, .agg #[.int .i64 0, q, .string .empty, .int .i64 0], .int .i64 0, .bool false]) ∧ fxQ (cfOk zs) zs = [] := by
  rw [h]; exact ⟨fun _ => rfl, rfl⟩
theorem cfT_yes {zs : List Int} (h : cfOk zs = true) : (∀ q, EfT (cfOk zs) zs q = .tuple #[.int .i64 (zs.getD 1 0), .agg #[.int .i64 ((zs.drop 3).getD 0 0), q, .string (aM (zs.drop 3)), .int .i64 (aP (zs.drop 3))], .int .i64 ((aN (zs.drop 3) : Int) + 3), .bool true]) ∧ fxQ (cfOk zs) zs = aQ (zs.drop 3) := by
  have e : ((3 + aN (zs.drop 3) : Nat) : Int) = (aN (zs.drop 3) : Int) + 3 := by omega
  rw [h]
  refine ⟨fun q => ?_, rfl⟩
  rw [← e]
  rfl

set_option maxRecDepth 100000 in
set_option maxHeartbeats 2000000 in
/-- The ways that end ahead of the address. -/
theorem l12From_not (v : Value) (zs : List Int) (w : World) (hv : Ints w 0 v zs) (h : validL zs = false ∨ zs.length < 3 ∨ 3 ≤ zs.length ∧ (zs.getD 0 0 ≠ 5 ∨ zs.getD 0 0 = 5 ∧ zs.getD 2 0 ≠ 0)) (hE : cfOk zs = false) :
    Calls Tryd.prog 61 #[v] w fun e w' => GaveEf w (cfOk zs) zs e w' := by
  have HV := Lib.hid hv
  obtain ⟨t1, t2⟩ := cfT_not hE
  have T1 := Lib.hid t1
  have T2 := Lib.hid t2
  obtain ⟨A, c, rfl, hc, hm, hA⟩ := hv.open_
  obtain ⟨V, hV⟩ : ∃ V, w.alloc (.cells #[.int .i64 0, .slice none 0 0, .string ⟨#[]⟩, .int .i64 0] 26) = V := ⟨_, rfl⟩
  have K : Hid (Blk V w.heap.size 26 #[.int .i64 0, .slice none 0 0, .string .empty, .int .i64 0]) := Lib.hid (by rw [← hV]; exact Blk.new _ _ _)
  have B : Hid (Below w.heap.size w V) := Lib.hid (by rw [← hV]; exact (Below.refl _ _).alloc (Nat.le_refl _) _)
  have I : Hid (Ints V 0 (.slice A zs.length c) zs) := Lib.hid (by rw [← hV]; exact HV.out.alloc _)
  have r0 : V.cell? ⟨w.heap.size, 0, none⟩ = some (.int .i64 0) := K.out.cell 0
  have r1 : V.cell? ⟨w.heap.size, 1, none⟩ = some (.slice none 0 0) := K.out.cell 1
  have r2 : V.cell? ⟨w.heap.size, 2, none⟩ = some (.string .empty) := K.out.cell 2
  have r3 : V.cell? ⟨w.heap.size, 3, none⟩ = some (.int .i64 0) := K.out.cell 3
  have f0 := K.out.free 0
  have f1 := K.out.free 1
  have f2 := K.out.free 2
  have f3 := K.out.free 3
  clear hv hE t1 t2
  cases hvl : validL zs
  · clear h hA
    go_enter Tryd.func61, Tryd.ntmps61
    go_wp2_with (go_at_call 75; refine (spec_BytesValid_any _ zs _ I.out).mono ?_; rintro e w' ⟨rfl, rfl⟩; rw [hvl])
    refine bodyPost_ret (v := .tuple #[.int .i64 0, .agg #[.int .i64 0, .slice none 0 0, .string .empty, .int .i64 0], .int .i64 0, .bool false]) (by simp [results, Tryd.results61, go_sem, r0, r1, r2, r3]; try rfl) rfl ?_
    exact ⟨_, by rw [T1.out], by rw [T2.out]; exact Own.nil_ _ _, below_st4 B.out (Nat.le_refl _) _ _ _ _⟩
  · rcases h with h | h | ⟨h, h'⟩
    · rw [hvl] at h; cases h
    · have h' : (zs.length : Int) < 3 := by omega
      clear h hA
      go_enter Tryd.func61, Tryd.ntmps61
      go_wp2_with (go_at_call 75; refine (spec_BytesValid_any _ zs _ I.out).mono ?_; rintro e w' ⟨rfl, rfl⟩; rw [hvl])
      refine bodyPost_ret (v := .tuple #[.int .i64 0, .agg #[.int .i64 0, .slice none 0 0, .string .empty, .int .i64 0], .int .i64 0, .bool false]) (by simp [results, Tryd.results61, go_sem, r0, r1, r2, r3]; try rfl) rfl ?_
      exact ⟨_, by rw [T1.out], by rw [T2.out]; exact Own.nil_ _ _, below_st4 B.out (Nat.le_refl _) _ _ _ _⟩
    · obtain ⟨b, o, rfl, _, hb, hs⟩ := hA.resolve_left (fun h0 => by rw [h0] at h; simp at h)
      have hsV : Seg V 3 b o (iv zs) := by rw [← hV]; exact hs.alloc _
      have c0 := hsV.int_at (j := 0) (by omega)
      have c2 := hsV.int_at (j := 2) (by omega)
      rw [Nat.add_zero] at c0
      have h3 : ¬ (zs.length : Int) < 3 := by omega
      have hp0 : (0 : Int) < (zs.length : Int) := by omega
      have hp2 : (2 : Int) < (zs.length : Int) := by omega
      obtain ⟨x, hx⟩ : ∃ x, zs.getD 0 0 = x := ⟨_, rfl⟩
      obtain ⟨y, hy⟩ : ∃ y, zs.getD 2 0 = y := ⟨_, rfl⟩
      rw [hx] at c0 h'
      rw [hy] at c2 h'
      rcases h' with h5 | ⟨rfl, h0⟩
      · have h5' : (x != 5) = true := by simpa using h5
        clear h hs hsV hx hy h5 hA
        go_enter Tryd.func61, Tryd.ntmps61
        go_wp2_with (go_at_call 75; refine (spec_BytesValid_any _ zs _ I.out).mono ?_; rintro e w' ⟨rfl, rfl⟩; rw [hvl])
        refine bodyPost_ret (v := .tuple #[.int .i64 0, .agg #[.int .i64 0, .slice none 0 0, .string .empty, .int .i64 0], .int .i64 0, .bool false]) (by simp [results, Tryd.results61, go_sem, r0, r1, r2, r3]; try rfl) rfl ?_
        exact ⟨_, by rw [T1.out], by rw [T2.out]; exact Own.nil_ _ _, below_st4 B.out (Nat.le_refl _) _ _ _ _⟩
      · have h0' : (y != 0) = true := by simpa using h0
        clear h hs hsV hx hy h0 hA
        go_enter Tryd.func61, Tryd.ntmps61
        go_wp2_with (go_at_call 75; refine (spec_BytesValid_any _ zs _ I.out).mono ?_; rintro e w' ⟨rfl, rfl⟩; rw [hvl])
        refine bodyPost_ret (v := .tuple #[.int .i64 0, .agg #[.int .i64 0, .slice none 0 0, .string .empty, .int .i64 0], .int .i64 0, .bool false]) (by simp [results, Tryd.results61, go_sem, r0, r1, r2, r3]; try rfl) rfl ?_
        exact ⟨_, by rw [T1.out], by rw [T2.out]; exact Own.nil_ _ _, below_st4 B.out (Nat.le_refl _) _ _ _ _⟩
end Go.Proofs.YtolbkdcnmkmncaaDoor
namespace Go.Proofs.YtolbkdcnmkmncaaDoor
open Go.RowKit

theorem cf_of_front {zs : List Int} (hv : validL zs = true) (hl : 3 ≤ zs.length) (h0 : zs.getD 0 0 = 5) (h2 : zs.getD 2 0 = 0) : aoOk (zs.drop 3) = cfOk zs := by
  have hd : validL (zs.drop 3) = true := validL_of (by have := validL_len hv; simp; omega) fun x hx => bytes_of_valid hv x (List.mem_of_mem_drop hx)
  rw [aoOk, cfOk, hv, hd, decide_eq_true hl, decide_eq_true h0, decide_eq_true h2]
  rfl

set_option maxRecDepth 100000 in
set_option maxHeartbeats 4000000 in
theorem l12From_front (v : Value) (zs : List Int) (w : World) (hv : Ints w 0 v zs) (hvl : validL zs = true) (hl : 3 ≤ zs.length) (h0 : zs.getD 0 0 = 5) (h2 : zs.getD 2 0 = 0) :
    Calls Tryd.prog 61 #[v] w fun e w' => GaveEf w (cfOk zs) zs e w' := by
  have HV := Lib.hid hv
  obtain ⟨A, c, rfl, hc, hm, hA⟩ := hv.open_
  have hao := cf_of_front hvl hl h0 h2
  have hl120 := validL_len hvl
  obtain ⟨b, o, rfl, _, hb, hs⟩ := hA.resolve_left (fun h => by rw [h] at hl; simp at hl)
  obtain ⟨V, hV⟩ : ∃ V, w.alloc (.cells #[.int .i64 0, .slice none 0 0, .string ⟨#[]⟩, .int .i64 0] 26) = V := ⟨_, rfl⟩
  have K : Hid (Blk V w.heap.size 26 #[.int .i64 0, .slice none 0 0, .string .empty, .int .i64 0]) := Lib.hid (by rw [← hV]; exact Blk.new _ _ _)
  have B : Hid (Below w.heap.size w V) := Lib.hid (by rw [← hV]; exact (Below.refl _ _).alloc (Nat.le_refl _) _)
  have I : Hid (Ints V 0 (.slice (some ⟨b, o, none⟩) zs.length c) zs) := Lib.hid (by rw [← hV]; exact HV.out.alloc _)
  have hsV : Seg V 3 b o (iv zs) := by rw [← hV]; exact hs.alloc _
  have zV : V.heap.size = w.heap.size + 1 := by rw [← hV]; simp
  have c0 := hsV.int_at (j := 0) (by omega)
  have c2 := hsV.int_at (j := 2) (by omega)
  rw [Nat.add_zero, h0] at c0
  rw [h2] at c2
  have HSV := Lib.hid hsV
  obtain ⟨V3, hV3, j3⟩ := slice_end hsV rfl (l := 3) hl hc hm
  have hV3' : ∀ W : World, (Instr.slice 23 (.slice (some ⟨b, o, none⟩) zs.length c) (some (.int .i64 3)) none none).run Tryd.prog W = .ok V3 W := hV3
  have h3 : ¬ (zs.length : Int) < 3 := by omega
  have hp0 : (0 : Int) < (zs.length : Int) := by omega
  have hp1 : (1 : Int) < (zs.length : Int) := by omega
  have hp2 : (2 : Int) < (zs.length : Int) := by omega
  have HAO : ∃ K Q M P N, (∀ (u : Value) (W : World), Ints W 0 u (zs.drop 3) → Calls Tryd.prog 76 #[u] W fun e w' => ∃ q, e = .returned (.tuple #[.agg #[.int .i64 K, q, .string M, .int .i64 P], .int .i64 N, .bool (cfOk zs)]) ∧ Own w' W.heap.size q Q ∧ Below W.heap.size W w') ∧
      (cfOk zs = true → (∀ q, EfT (cfOk zs) zs q = .tuple #[.int .i64 (zs.getD 1 0), .agg #[.int .i64 K, q, .string M, .int .i64 P], .int .i64 (N + 3), .bool true]) ∧ fxQ (cfOk zs) zs = Q ∧ 0 ≤ N ∧ N ≤ 1000) := by
    refine ⟨if aoOk (zs.drop 3) = true then (zs.drop 3).getD 0 0 else 0, if aoOk (zs.drop 3) = true then aQ (zs.drop 3) else [], if aoOk (zs.drop 3) = true then aM (zs.drop 3) else ByteArray.empty, if aoOk (zs.drop 3) = true then aP (zs.drop 3) else 0, if aoOk (zs.drop 3) = true then (aN (zs.drop 3) : Int) else 0, fun u W h => (spec_AddressOf_any u _ W h).mono fun e w' ⟨q, h1, h2, h3⟩ => ⟨q, ?_, h2, h3⟩, fun h => ?_⟩
    · rw [h1, ← hao]; rfl
    · have h' := hao.trans h
      have hN := (afOk_parts (cfOk_parts h).2.2.2.2).1
      have hl' : (zs.drop 3).length ≤ 120 := by simp; omega
      rw [h', if_pos rfl, if_pos rfl, if_pos rfl, if_pos rfl, if_pos rfl]
      exact ⟨(cfT_yes h).1, (cfT_yes h).2, by omega, by omega⟩
  obtain ⟨K', Q, M, P, N, H1, H2⟩ := HAO
  have HAO := Lib.hid H1
  have HT := Lib.hid H2
  have c1 := hsV.int_at (j := 1) (by omega)
  obtain ⟨C, hC⟩ : ∃ C, zs.getD 1 0 = C := ⟨_, rfl⟩
  rw [hC] at c1 HT
  have J3 := Lib.hid j3
  have hbV : b < V.heap.size := by omega
  clear hv hV3 hs hsV hA h0 h2 hao j3 hl H1 H2 hC
  go_enter Tryd.func61, Tryd.ntmps61
  go_wp2_with (go_at_call 75; refine (spec_BytesValid_any _ zs _ I.out).mono ?_; rintro e w' ⟨rfl, rfl⟩; rw [hvl])
  refine (HAO.out _ _ J3.out).mono ?_
  rintro e w1 ⟨q, rfl, o1, b1⟩
  obtain ⟨A1, d1, rfl, _, _, _⟩ := o1.form
  obtain ⟨V1, hV1⟩ : ∃ V1, w1.alloc (.cells #[.int .i64 K', .slice A1 Q.length d1, .string M, .int .i64 P] 26) = V1 := ⟨_, rfl⟩
  have X1 : Hid (Blk V1 w1.heap.size 26 #[.int .i64 K', .slice A1 Q.length d1, .string M, .int .i64 P]) := Lib.hid (by rw [← hV1]; exact Blk.new _ _ _)
  have K1 : Hid (Blk V1 w.heap.size 26 #[.int .i64 0, .slice none 0 0, .string .empty, .int .i64 0]) := Lib.hid (by rw [← hV1]; exact (K.out.kept b1).alloc _)
  have O1 : Hid (Own V1 (w.heap.size + 1) (.slice A1 Q.length d1) Q) := Lib.hid (by rw [← hV1, ← zV]; exact o1.alloc _)
  have B1 : Hid (Below w.heap.size w V1) := Lib.hid (by
    rw [← hV1]
    have h := B.out.trans (b1.mono B.out.size)
    exact h.alloc h.size _)
  have e1 : V1.cell? ⟨b, o + 1, none⟩ = some (.int .i64 C) := by
    rw [← hV1]
    exact (World.cell?_alloc_lt w1 _ ⟨b, o + 1, none⟩ (Nat.lt_of_lt_of_le hbV b1.size)).trans ((b1.cell (p := ⟨b, o + 1, none⟩) hbV).trans c1)
  have z1 : w.heap.size < w1.heap.size := by have := b1.size; omega
  have y0 : V1.cell? ⟨w1.heap.size, 0, none⟩ = some (.int .i64 K') := X1.out.cell 0
  have y1 : V1.cell? ⟨w1.heap.size, 1, none⟩ = some (.slice A1 Q.length d1) := X1.out.cell 1
  have y2 : V1.cell? ⟨w1.heap.size, 2, none⟩ = some (.string M) := X1.out.cell 2
  have y3 : V1.cell? ⟨w1.heap.size, 3, none⟩ = some (.int .i64 P) := X1.out.cell 3
  have r0 : V1.cell? ⟨w.heap.size, 0, none⟩ = some (.int .i64 0) := K1.out.cell 0
  have r1 : V1.cell? ⟨w.heap.size, 1, none⟩ = some (.slice none 0 0) := K1.out.cell 1
  have r2 : V1.cell? ⟨w.heap.size, 2, none⟩ = some (.string .empty) := K1.out.cell 2
  have r3 : V1.cell? ⟨w.heap.size, 3, none⟩ = some (.int .i64 0) := K1.out.cell 3
  have f0 := K1.out.free 0
  have f1 := K1.out.free 1
  have f2 := K1.out.free 2
  have f3 := K1.out.free 3
  have n1 : w.heap.size ≠ w1.heap.size := by omega
  have n2 : w1.heap.size ≠ w.heap.size := by omega
  clear o1 b1 c0 c1 c2
  cases hcf : cfOk zs
  · obtain ⟨t1, t2⟩ := cfT_not hcf
    have T1 := Lib.hid t1
    have T2 := Lib.hid t2
    clear t1 t2 hcf
    go_wp2_with fail
    refine bodyPost_ret (v := .tuple #[.int .i64 0, .agg #[.int .i64 0, .slice none 0 0, .string .empty, .int .i64 0], .int .i64 0, .bool false]) (by simp [results, Tryd.results61, go_sem, r0, r1, r2, r3]; try rfl) rfl ?_
    exact ⟨_, by rw [T1.out], by rw [T2.out]; exact Own.nil_ _ _, below_st4 B1.out (Nat.le_refl _) _ _ _ _⟩
  · obtain ⟨t1, t2, hN0, hN1⟩ := HT.out hcf
    have T1 := Lib.hid t1
    have T2 := Lib.hid t2
    have e3 : IntKind.i64.wrap (N + 3) = N + 3 := IntWalk.i64_in _ (by omega)
    have e4 : wrap64 (N + 3) = N + 3 := IntWalk.wrap64_in _ (by omega)
    clear t1 t2 hcf
    go_wp2_with fail
    go_region
    go_wp2_with fail
    refine bodyPost_ret (v := .tuple #[.int .i64 C, .agg #[.int .i64 K', .slice A1 Q.length d1, .string M, .int .i64 P], .int .i64 (N + 3), .bool true]) (by simp [results, Tryd.results61, go_sem, r0, r1, r2, r3]; try rfl) rfl ?_
    exact ⟨_, by rw [T1.out], by rw [T2.out]; exact (O1.out.drew.st4 (Nat.lt_succ_self _)).more (Nat.le_succ _), below_st4 B1.out.drew (Nat.le_refl _) _ _ _ _⟩

theorem l12From_any (v : Value) (zs : List Int) (w : World) (hv : Ints w 0 v zs) : Calls Tryd.prog 61 #[v] w fun e w' => GaveEf w (cfOk zs) zs e w' := by
  cases hvl : validL zs
  · exact l12From_not v zs w hv (.inl hvl) (by rw [cfOk, hvl]; simp)
  by_cases hl : 3 ≤ zs.length
  case neg => exact l12From_not v zs w hv (.inr (.inl (by omega))) (by rw [cfOk, decide_eq_false hl]; simp)
  by_cases h0 : zs.getD 0 0 = 5
  case neg => exact l12From_not v zs w hv (.inr (.inr ⟨hl, .inl h0⟩)) (by rw [cfOk, decide_eq_false h0]; simp)
  by_cases h2 : zs.getD 2 0 = 0
  case neg => exact l12From_not v zs w hv (.inr (.inr ⟨hl, .inr ⟨h0, h2⟩⟩)) (by rw [cfOk, decide_eq_false h2]; simp)
  exact l12From_front v zs w hv hvl hl h0 h2
end Go.Proofs.YtolbkdcnmkmncaaDoor
namespace Go.Proofs.YtolbkdcnmkmncaaDoor
open Go.RowKit

theorem l12From_ok {zs : List Int} (h : cfOk zs = true) (u : Value) (W : World) (hu : Ints W 0 u zs) :
    CfGave 61 u W (zs.getD 1 0) ((zs.drop 3).getD 0 0) (aQ (zs.drop 3)) (aM (zs.drop 3)) (aP (zs.drop 3)) ((3 + aN (zs.drop 3) : Nat) : Int) true := by
  refine (l12From_any u zs W hu).mono ?_
  rintro e w' ⟨q, rfl, o, b⟩
  rw [h] at o ⊢
  exact ⟨q, rfl, o, b⟩
theorem l12From_no {zs : List Int} (h : cfOk zs = false) (u : Value) (W : World) (hu : Ints W 0 u zs) : CfGave 61 u W 0 0 [] ByteArray.empty 0 0 false := by
  refine (l12From_any u zs W hu).mono ?_
  rintro e w' ⟨q, rfl, o, b⟩
  rw [h] at o ⊢
  exact ⟨q, rfl, o, b⟩

set_option maxRecDepth 100000 in
set_option maxHeartbeats 4000000 in
theorem spec_RequestFrom_any (v : Value) (zs : List Int) (w : World) (hv : Ints w 0 v zs) : Calls Tryd.prog 23 #[v] w fun e w' => GaveRf w (rfOk zs) zs e w' := by
  have HV := Lib.hid hv
  have hcases : ∃ C K Q M P N b, (∀ (u : Value) (W : World), Ints W 0 u zs → CfGave 61 u W C K Q M P N b) ∧ (b = false ∧ rfOk zs = false ∨ b = true ∧ inR C 1 3 = rfOk zs ∧
      (rfOk zs = true → (∀ q, RfT (rfOk zs) zs q = .tuple #[.agg #[.int .i64 C, .int .i64 K, q, .string M, .int .i64 P], .int .i64 N, .bool true]) ∧ fxQ (rfOk zs) zs = Q)) := by
    cases h : cfOk zs
    · exact ⟨_, _, _, _, _, _, false, fun u W hu => l12From_no h u W hu, .inl ⟨rfl, by rw [rfOk, h]; rfl⟩⟩
    · refine ⟨_, _, _, _, _, _, true, fun u W hu => l12From_ok h u W hu, .inr ⟨rfl, ?_, fun h2 => rfT_yes h2⟩⟩
      rw [rfOk, h, Bool.true_and]
  obtain ⟨C, K, Q, M, P, N, b, H, hb⟩ := hcases
  have HC := Lib.hid H
  have HB := Lib.hid hb
  clear hv H hb
  go_enter Tryd.func23, Tryd.ntmps23
  go_wp2_with fail
  refine (HC.out _ _ (HV.out.alloc _)).mono ?_
  rintro e w1 ⟨q, rfl, o1, b1⟩
  obtain ⟨A1, c1, rfl, _, _, _⟩ := o1.form
  have K1 := Lib.hid ((Blk.new w 35 #[.int .i64 0, .int .i64 0, .slice none 0 0, .string .empty, .int .i64 0]).kept b1)
  have B1 : Hid (Below w.heap.size w w1) := Lib.hid (((Below.refl _ _).alloc (Nat.le_refl _) _).trans (b1.mono (by simp)))
  have O1 := Lib.hid (o1.more (base' := w.heap.size + 1) (by simp))
  have z1 := K1.out.lt
  clear o1 b1
  obtain ⟨V1, hV1⟩ : ∃ V1, w1.alloc (.cells #[.int .i64 K, .slice A1 Q.length c1, .string M, .int .i64 P] 26) = V1 := ⟨_, rfl⟩
  have X1 : Hid (Blk V1 w1.heap.size 26 #[.int .i64 K, .slice A1 Q.length c1, .string M, .int .i64 P]) := Lib.hid (by rw [← hV1]; exact Blk.new _ _ _)
  have K2 : Hid (Blk V1 w.heap.size 35 #[.int .i64 0, .int .i64 0, .slice none 0 0, .string .empty, .int .i64 0]) := Lib.hid (by rw [← hV1]; exact (K1.out.alloc _))
  have O2 : Hid (Own V1 (w.heap.size + 1) (.slice A1 Q.length c1) Q) := Lib.hid (by rw [← hV1]; exact (O1.out.alloc _))
  have B2 : Hid (Below w.heap.size w V1) := Lib.hid (by rw [← hV1]; exact B1.out.alloc B1.out.size _)
  have y0 : V1.cell? ⟨w1.heap.size, 0, none⟩ = some (.int .i64 K) := X1.out.cell 0
  have y1 : V1.cell? ⟨w1.heap.size, 1, none⟩ = some (.slice A1 Q.length c1) := X1.out.cell 1
  have y2 : V1.cell? ⟨w1.heap.size, 2, none⟩ = some (.string M) := X1.out.cell 2
  have y3 : V1.cell? ⟨w1.heap.size, 3, none⟩ = some (.int .i64 P) := X1.out.cell 3
  have r0 : V1.cell? ⟨w.heap.size, 0, none⟩ = some (.int .i64 0) := K2.out.cell 0
  have r1 : V1.cell? ⟨w.heap.size, 1, none⟩ = some (.int .i64 0) := K2.out.cell 1
  have r2 : V1.cell? ⟨w.heap.size, 2, none⟩ = some (.slice none 0 0) := K2.out.cell 2
  have r3 : V1.cell? ⟨w.heap.size, 3, none⟩ = some (.string .empty) := K2.out.cell 3
  have r4 : V1.cell? ⟨w.heap.size, 4, none⟩ = some (.int .i64 0) := K2.out.cell 4
  have f0 := K2.out.free 0
  have f1 := K2.out.free 1
  have f2 := K2.out.free 2
  have f3 := K2.out.free 3
  have f4 := K2.out.free 4
  have n1 : w.heap.size ≠ w1.heap.size := by omega
  have n2 : w1.heap.size ≠ w.heap.size := by omega
  rcases HB.out with ⟨rfl, hr⟩ | ⟨rfl, hr, hT⟩
  · obtain ⟨t1, t2⟩ := rfT_not hr
    have T1 := Lib.hid t1
    have T2 := Lib.hid t2
    clear t1 t2 hr
    go_wp2_with fail
    refine bodyPost_ret (v := .tuple #[.agg #[.int .i64 0, .int .i64 0, .slice none 0 0, .string .empty, .int .i64 0], .int .i64 0, .bool false]) (by simp [results, Tryd.results23, go_sem, r0, r1, r2, r3, r4]; try rfl) rfl ?_
    exact ⟨_, by rw [T1.out], by rw [T2.out]; exact Own.nil_ _ _, below_st5 B2.out (Nat.le_refl _) _ _ _ _ _⟩
  · cases hc : inR C 1 3
    · have hrf : rfOk zs = false := hr.symm.trans hc
      obtain ⟨t1, t2⟩ := rfT_not hrf
      have T1 := Lib.hid t1
      have T2 := Lib.hid t2
      clear t1 t2 hr hT hrf
      go_wp2_with (go_at_call 62; refine (l6In_any _ _ _ _).mono ?_; rintro e w' ⟨rfl, rfl⟩; rw [hc])
      refine bodyPost_ret (v := .tuple #[.agg #[.int .i64 0, .int .i64 0, .slice none 0 0, .string .empty, .int .i64 0], .int .i64 0, .bool false]) (by simp [results, Tryd.results23, go_sem, r0, r1, r2, r3, r4]; try rfl) rfl ?_
      exact ⟨_, by rw [T1.out], by rw [T2.out]; exact Own.nil_ _ _, below_st5 B2.out (Nat.le_refl _) _ _ _ _ _⟩
    · have hrf : rfOk zs = true := hr.symm.trans hc
      obtain ⟨t1, t2⟩ := hT hrf
      have T1 := Lib.hid t1
      have T2 := Lib.hid t2
      clear t1 t2 hr hT hrf
      go_wp2_with (go_at_call 62; refine (l6In_any _ _ _ _).mono ?_; rintro e w' ⟨rfl, rfl⟩; rw [hc])
      refine bodyPost_ret (v := .tuple #[.agg #[.int .i64 C, .int .i64 K, .slice A1 Q.length c1, .string M, .int .i64 P], .int .i64 N, .bool true]) (by simp [results, Tryd.results23, go_sem, r0, r1, r2, r3, r4]; try rfl) rfl ?_
      exact ⟨_, by rw [T1.out], by rw [T2.out]; exact (O2.out.st5 (Nat.lt_succ_self _)).more (Nat.le_succ _), below_st5 B2.out (Nat.le_refl _) _ _ _ _ _⟩

set_option maxRecDepth 100000 in
set_option maxHeartbeats 4000000 in
theorem spec_ReplyFrom_any (v : Value) (zs : List Int) (w : World) (hv : Ints w 0 v zs) : Calls Tryd.prog 17 #[v] w fun e w' => GaveEf w (efOk zs) zs e w' := by
  have HV := Lib.hid hv
  have hcases : ∃ C K Q M P N b, (∀ (u : Value) (W : World), Ints W 0 u zs → CfGave 61 u W C K Q M P N b) ∧ (b = false ∧ efOk zs = false ∨ b = true ∧ inR C 0 8 = efOk zs ∧
      (efOk zs = true → (∀ q, EfT (efOk zs) zs q = .tuple #[.int .i64 C, .agg #[.int .i64 K, q, .string M, .int .i64 P], .int .i64 N, .bool true]) ∧ fxQ (efOk zs) zs = Q)) := by
    cases h : cfOk zs
    · exact ⟨_, _, _, _, _, _, false, fun u W hu => l12From_no h u W hu, .inl ⟨rfl, by rw [efOk, h]; rfl⟩⟩
    · refine ⟨_, _, _, _, _, _, true, fun u W hu => l12From_ok h u W hu, .inr ⟨rfl, ?_, fun h2 => efT_yes h2⟩⟩
      rw [efOk, h, Bool.true_and]
  obtain ⟨C, K, Q, M, P, N, b, H, hb⟩ := hcases
  have HC := Lib.hid H
  have HB := Lib.hid hb
  clear hv H hb
  go_enter Tryd.func17, Tryd.ntmps17
  go_wp2_with fail
  refine (HC.out _ _ (HV.out.alloc _)).mono ?_
  rintro e w1 ⟨q, rfl, o1, b1⟩
  obtain ⟨A1, c1, rfl, _, _, _⟩ := o1.form
  have K1 := Lib.hid ((Blk.new w 26 #[.int .i64 0, .slice none 0 0, .string .empty, .int .i64 0]).kept b1)
  have B1 : Hid (Below w.heap.size w w1) := Lib.hid (((Below.refl _ _).alloc (Nat.le_refl _) _).trans (b1.mono (by simp)))
  have O1 := Lib.hid (o1.more (base' := w.heap.size + 1) (by simp))
  have z1 := K1.out.lt
  clear o1 b1
  obtain ⟨V1, hV1⟩ : ∃ V1, w1.alloc (.cells #[.int .i64 K, .slice A1 Q.length c1, .string M, .int .i64 P] 26) = V1 := ⟨_, rfl⟩
  have X1 : Hid (Blk V1 w1.heap.size 26 #[.int .i64 K, .slice A1 Q.length c1, .string M, .int .i64 P]) := Lib.hid (by rw [← hV1]; exact Blk.new _ _ _)
  have K2 : Hid (Blk V1 w.heap.size 26 #[.int .i64 0, .slice none 0 0, .string .empty, .int .i64 0]) := Lib.hid (by rw [← hV1]; exact (K1.out.alloc _))
  have O2 : Hid (Own V1 (w.heap.size + 1) (.slice A1 Q.length c1) Q) := Lib.hid (by rw [← hV1]; exact (O1.out.alloc _))
  have B2 : Hid (Below w.heap.size w V1) := Lib.hid (by rw [← hV1]; exact B1.out.alloc B1.out.size _)
  have y0 : V1.cell? ⟨w1.heap.size, 0, none⟩ = some (.int .i64 K) := X1.out.cell 0
  have y1 : V1.cell? ⟨w1.heap.size, 1, none⟩ = some (.slice A1 Q.length c1) := X1.out.cell 1
  have y2 : V1.cell? ⟨w1.heap.size, 2, none⟩ = some (.string M) := X1.out.cell 2
  have y3 : V1.cell? ⟨w1.heap.size, 3, none⟩ = some (.int .i64 P) := X1.out.cell 3
  have r0 : V1.cell? ⟨w.heap.size, 0, none⟩ = some (.int .i64 0) := K2.out.cell 0
  have r1 : V1.cell? ⟨w.heap.size, 1, none⟩ = some (.slice none 0 0) := K2.out.cell 1
  have r2 : V1.cell? ⟨w.heap.size, 2, none⟩ = some (.string .empty) := K2.out.cell 2
  have r3 : V1.cell? ⟨w.heap.size, 3, none⟩ = some (.int .i64 0) := K2.out.cell 3
  have f0 := K2.out.free 0
  have f1 := K2.out.free 1
  have f2 := K2.out.free 2
  have f3 := K2.out.free 3
  have n1 : w.heap.size ≠ w1.heap.size := by omega
  have n2 : w1.heap.size ≠ w.heap.size := by omega
  rcases HB.out with ⟨rfl, hr⟩ | ⟨rfl, hr, hT⟩
  · obtain ⟨t1, t2⟩ := efT_not hr
    have T1 := Lib.hid t1
    have T2 := Lib.hid t2
    clear t1 t2 hr
    go_wp2_with fail
    refine bodyPost_ret (v := .tuple #[.int .i64 0, .agg #[.int .i64 0, .slice none 0 0, .string .empty, .int .i64 0], .int .i64 0, .bool false]) (by simp [results, Tryd.results17, go_sem, r0, r1, r2, r3]; try rfl) rfl ?_
    exact ⟨_, by rw [T1.out], by rw [T2.out]; exact Own.nil_ _ _, below_st4 B2.out (Nat.le_refl _) _ _ _ _⟩
  · cases hc : inR C 0 8
    · have hrf : efOk zs = false := hr.symm.trans hc
      obtain ⟨t1, t2⟩ := efT_not hrf
      have T1 := Lib.hid t1
      have T2 := Lib.hid t2
      clear t1 t2 hr hT hrf
      go_wp2_with (go_at_call 62; refine (l6In_any _ _ _ _).mono ?_; rintro e w' ⟨rfl, rfl⟩; rw [hc])
      refine bodyPost_ret (v := .tuple #[.int .i64 0, .agg #[.int .i64 0, .slice none 0 0, .string .empty, .int .i64 0], .int .i64 0, .bool false]) (by simp [results, Tryd.results17, go_sem, r0, r1, r2, r3]; try rfl) rfl ?_
      exact ⟨_, by rw [T1.out], by rw [T2.out]; exact Own.nil_ _ _, below_st4 B2.out (Nat.le_refl _) _ _ _ _⟩
    · have hrf : efOk zs = true := hr.symm.trans hc
      obtain ⟨t1, t2⟩ := hT hrf
      have T1 := Lib.hid t1
      have T2 := Lib.hid t2
      clear t1 t2 hr hT hrf
      go_wp2_with (go_at_call 62; refine (l6In_any _ _ _ _).mono ?_; rintro e w' ⟨rfl, rfl⟩; rw [hc])
      go_region
      go_wp2_with fail
      refine bodyPost_ret (v := .tuple #[.int .i64 C, .agg #[.int .i64 K, .slice A1 Q.length c1, .string M, .int .i64 P], .int .i64 N, .bool true]) (by simp [results, Tryd.results17, go_sem, r0, r1, r2, r3]; try rfl) rfl ?_
      exact ⟨_, by rw [T1.out], by rw [T2.out]; exact (O2.out.drew.st4 (Nat.lt_succ_self _)).more (Nat.le_succ _), below_st4 B2.out.drew (Nat.le_refl _) _ _ _ _⟩
end Go.Proofs.YtolbkdcnmkmncaaDoor

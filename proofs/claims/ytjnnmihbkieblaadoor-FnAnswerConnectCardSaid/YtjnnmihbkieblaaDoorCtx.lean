/-
  The text with which a tunnel is asked for: ConnectText of both sides, and the drawn address. Conditions: the address's quad is read; the table of powers of ten reads as it was laid.
-/
import Derived.Test.YtjnnmihbkieblaaDoorAdT
import Derived.Test.YtjnnmihbkieblaaDoorDrawAd2
namespace Go.Proofs.YtjnnmihbkieblaaDoor
open Go.RowKit Go.Sort

def conB : ByteArray := ⟨#[67, 79, 78, 78, 69, 67, 84, 32]⟩
def midB : ByteArray := ⟨#[32, 72, 84, 84, 80, 47, 49, 46, 49, 13, 10, 72, 111, 115, 116, 58, 32]⟩
def endB : ByteArray := ⟨#[13, 10, 13, 10]⟩
def conT (t : ByteArray) : ByteArray := conB ++ t ++ midB ++ t ++ endB
def conX (k : Int) (qs : List Int) (nm : ByteArray) (p : Int) : ByteArray := if adOk k qs nm p = true then conT (adT k qs nm p) else ⟨#[]⟩
theorem conX_ok {k : Int} {qs : List Int} {nm : ByteArray} {p : Int} (h : adOk k qs nm p = true) : conX k qs nm p = conT (adT k qs nm p) := if_pos h
theorem conX_not {k : Int} {qs : List Int} {nm : ByteArray} {p : Int} (h : adOk k qs nm p = false) : conX k qs nm p = ⟨#[]⟩ := by simp [conX, h]
theorem conT_size (t : ByteArray) : (conT t).size = 2 * t.size + 29 := by
  unfold conT
  simp only [ByteArray.size_append, show conB.size = 8 from rfl, show midB.size = 17 from rfl, show endB.size = 4 from rfl]
  omega
theorem filled_of {u : ByteArray} (h : 0 < u.size) : u.toList.isEmpty = false := by
  have h1 : u.toList.length = u.size := by
    rw [ByteArray.toList_eq]
    rfl
  cases e : u.toList with
  | nil =>
    rw [e] at h1
    simp at h1
    omega
  | cons _ _ => rfl
theorem adT_pos (k : Int) (qs : List Int) (nm : ByteArray) (p : Int) : 0 < (adT k qs nm p).size := by
  unfold adT
  simp only [ByteArray.size_append, colB_size]
  omega

set_option maxRecDepth 100000 in
set_option maxHeartbeats 2000000 in
theorem impl_ConnectText_any (k : Int) (q : Value) (nm : ByteArray) (p : Int) (qs : List Int) (w : World) (hq : Ints w 0 q qs) (hn : nm.size < 4294967281) (ht : Tabs w) :
    Calls Tryd.prog 10 #[.agg #[.int .i64 k, q, .string nm, .int .i64 p]] w fun e w' => e = .returned (.string (conX k qs nm p)) ∧ Below w.heap.size w w' := by
  have HTB := Lib.hid ht
  have HQ := Lib.hid hq
  obtain ⟨A, c, rfl, hc, hm, _⟩ := hq.open_
  obtain ⟨V, hV⟩ : ∃ V, w.alloc (.cells #[.int .i64 k, .slice A qs.length c, .string nm, .int .i64 p] 27) = V := ⟨_, rfl⟩
  have K : Hid (Blk V w.heap.size 27 #[.int .i64 k, .slice A qs.length c, .string nm, .int .i64 p]) := Lib.hid (by rw [← hV]; exact Blk.new _ _ _)
  have B : Hid (Below w.heap.size w V) := Lib.hid (by rw [← hV]; exact (Below.refl _ _).alloc (Nat.le_refl _) _)
  have I : Hid (Ints V 0 (.slice A qs.length c) qs) := Lib.hid (by rw [← hV]; exact HQ.out.alloc _)
  have a0 : V.cell? ⟨w.heap.size, 0, none⟩ = some (.int .i64 k) := K.out.cell 0
  have a1 : V.cell? ⟨w.heap.size, 1, none⟩ = some (.slice A qs.length c) := K.out.cell 1
  have a2 : V.cell? ⟨w.heap.size, 2, none⟩ = some (.string nm) := K.out.cell 2
  have a3 : V.cell? ⟨w.heap.size, 3, none⟩ = some (.int .i64 p) := K.out.cell 3
  clear hq
  have TB : Hid (Tabs V) := Lib.hid (HTB.out.below B.out)
  clear ht
  cases h : adOk k qs nm p
  · have E := Lib.hid (conX_not h)
    have EX := Lib.hid (adX_not h)
    go_enter Tryd.func10, Tryd.ntmps10
    go_wp2_with (go_at_call 24; refine (impl_AddressText_any k _ nm p qs _ I.out hn TB.out).mono ?_; rintro e w1 ⟨rfl, b1⟩; rw [EX.out]; clear hV a0 a1 a2 a3)
    have B1 := Lib.hid (B.out.trans (b1.mono B.out.size))
    go_ret
    exact ⟨by rw [E.out]; rfl, B1.out⟩
  have EX := Lib.hid (adX_ok h)
  have hz0 := adT_size h
  have hzp := adT_pos k qs nm p
  obtain ⟨T, hT⟩ : ∃ T, adT k qs nm p = T := ⟨_, rfl⟩
  have EC : Hid (conX k qs nm p = conB ++ T ++ midB ++ T ++ endB) := Lib.hid (by rw [← hT]; exact conX_ok h)
  have EX2 : Hid (adX k qs nm p = T) := Lib.hid (by rw [← hT]; exact EX.out)
  rw [hT] at hz0 hzp
  obtain ⟨z, hz⟩ : ∃ z, T.size = z := ⟨_, rfl⟩
  rw [hz] at hz0 hzp
  have hne : T.toList.isEmpty = false := filled_of (by omega)
  have n0 : (9223372036854775807 < 8 + z) = False := eq_false (by omega)
  have n1 : (9223372036854775807 < 8 + z + 17) = False := eq_false (by omega)
  have n2 : (9223372036854775807 < 8 + z + 17 + z) = False := eq_false (by omega)
  have n3 : (9223372036854775807 < 8 + z + 17 + z + 4) = False := eq_false (by omega)
  clear hT EX h
  go_enter Tryd.func10, Tryd.ntmps10
  go_wp2_with fail
  refine (impl_AddressText_any k _ nm p qs _ I.out hn TB.out).mono ?_
  rintro e w1 ⟨rfl, b1⟩
  rw [EX2.out]
  clear hV a0 a1 a2 a3
  go_wp2_with fail
  have B1 := Lib.hid (B.out.trans (b1.mono B.out.size))
  go_ret
  exact ⟨by rw [EC.out]; rfl, B1.out⟩

theorem ctx_own {w : World} {base B : Nat} {v x y z u : Value} {zs : List Int} (h : Own w base v zs) (hb : B < base) : Own ((((w.setCell ⟨B, 0, none⟩ x).setCell ⟨B, 1, none⟩ y).setCell ⟨B, 2, none⟩ z).setCell ⟨B, 3, none⟩ u) base v zs :=
  (((h.far hb x).far hb y).far hb z).far hb u
theorem ctx_below {a w : World} {n B : Nat} {x y z u : Value} (h : Below n a w) (hB : n ≤ B) : Below n a ((((w.setCell ⟨B, 0, none⟩ x).setCell ⟨B, 1, none⟩ y).setCell ⟨B, 2, none⟩ z).setCell ⟨B, 3, none⟩ u) := by
  exact (((h.setCell (p := ⟨B, 0, none⟩) hB x).setCell (p := ⟨B, 1, none⟩) hB y).setCell (p := ⟨B, 2, none⟩) hB z).setCell (p := ⟨B, 3, none⟩) hB u
/-- Behind a drawn address. -/
def DrewCtx (w : World) (e : Ending) (w' : World) : Prop :=
  ∃ k q qs nm p, e = .returned (.agg #[.int .i64 k, q, .string nm, .int .i64 p]) ∧ Own w' w.heap.size q qs ∧ qs.length ≤ 4 ∧ nm.size ≤ 21 ∧ Below w.heap.size w w'
end Go.Proofs.YtjnnmihbkieblaaDoor

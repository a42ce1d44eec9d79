/-
  The program's RequestFrom and ReplyFrom at the bytes of a request or a reply, whole, followed, cut or changed. Conditions: the slice reads as those bytes.
-/
import Derived.Test.YtahlgdehfjjoeaaDoorRf
namespace Go.Proofs.YtahlgdehfjjoeaaDoor
open Go.RowKit

theorem rqL_cd {c k : Int} {qs : List Int} {nm : ByteArray} {p : Int} (h : rqOk c k qs nm p = true) : rqL c k qs nm p = cdB c k qs nm p := by rw [rqL, if_pos h]
theorem rpL_cd {c k : Int} {qs : List Int} {nm : ByteArray} {p : Int} (h : rpOk c k qs nm p = true) : rpL c k qs nm p = cdB c k qs nm p := by rw [rpL, if_pos h]
theorem rq_len {c k : Int} {qs : List Int} {nm : ByteArray} {p : Int} (h : rqOk c k qs nm p = true) : 7 ≤ (rqL c k qs nm p).length ∧ (rqL c k qs nm p).length ≤ 27 := by
  rw [rqL_cd h]
  have := cdB_length (c := c) (rqOk_parts h).2.2
  omega
theorem rp_len {c k : Int} {qs : List Int} {nm : ByteArray} {p : Int} (h : rpOk c k qs nm p = true) : 7 ≤ (rpL c k qs nm p).length ∧ (rpL c k qs nm p).length ≤ 27 := by
  rw [rpL_cd h]
  have := cdB_length (c := c) (rpOk_parts h).2.2
  omega
/-- RequestFrom returned such a request. -/
def RfGave (u : Value) (W : World) (c k : Int) (qs : List Int) (nm : ByteArray) (p n : Int) (b : Bool) : Prop :=
  Calls Tryd.prog 45 #[u] W fun e w' => ∃ q, e = .returned (.tuple #[.agg #[.int .i64 c, .int .i64 k, q, .string nm, .int .i64 p], .int .i64 n, .bool b]) ∧ Own w' W.heap.size q qs ∧ Below W.heap.size W w'
def EfGave (u : Value) (W : World) (c k : Int) (qs : List Int) (nm : ByteArray) (p n : Int) (b : Bool) : Prop :=
  Calls Tryd.prog 40 #[u] W fun e w' => ∃ q, e = .returned (.tuple #[.int .i64 c, .agg #[.int .i64 k, q, .string nm, .int .i64 p], .int .i64 n, .bool b]) ∧ Own w' W.heap.size q qs ∧ Below W.heap.size W w'
theorem rf_gave_not {zs : List Int} (h : rfOk zs = false) (u : Value) (W : World) (hu : Ints W 0 u zs) : RfGave u W 0 0 [] ByteArray.empty 0 0 false := by
  obtain ⟨t1, t2⟩ := rfT_not h
  refine (impl_RequestFrom_any u zs W hu).mono ?_
  rintro e w' ⟨q, rfl, o, b⟩
  rw [t1]
  rw [t2] at o
  exact ⟨q, rfl, o, b⟩
theorem ef_gave_not {zs : List Int} (h : efOk zs = false) (u : Value) (W : World) (hu : Ints W 0 u zs) : EfGave u W 0 0 [] ByteArray.empty 0 0 false := by
  obtain ⟨t1, t2⟩ := efT_not h
  refine (impl_ReplyFrom_any u zs W hu).mono ?_
  rintro e w' ⟨q, rfl, o, b⟩
  rw [t1]
  rw [t2] at o
  exact ⟨q, rfl, o, b⟩
theorem rf_gave_cd {c k : Int} {qs : List Int} {nm : ByteArray} {p : Int} (hc : 0 ≤ c ∧ c ≤ 255) (hr : inR c 1 3 = true) (h : adOk k qs nm p = true) {t : List Int} (ht : ∀ x ∈ t, 0 ≤ x ∧ x ≤ 255) (hl : t.length ≤ 90)
    (u : Value) (W : World) (hu : Ints W 0 u (cdB c k qs nm p ++ t)) : RfGave u W c k qs nm p ((cdB c k qs nm p).length : Int) true := by
  have hok : rfOk (cdB c k qs nm p ++ t) = true := (rf_of_cd hc h ht hl).trans hr
  obtain ⟨e1, e2, e3, e4, e5, e6⟩ := cd_fx hc h ht hl
  refine (impl_RequestFrom_any u _ W hu).mono ?_
  rintro e w' ⟨q, rfl, o, b⟩
  rw [hok] at o ⊢
  rw [e3] at o
  rw [RfT, e1, e2, e4, e5, e6]
  exact ⟨q, rfl, o, b⟩
theorem ef_gave_cd {c k : Int} {qs : List Int} {nm : ByteArray} {p : Int} (hc : 0 ≤ c ∧ c ≤ 255) (hr : inR c 0 8 = true) (h : adOk k qs nm p = true) {t : List Int} (ht : ∀ x ∈ t, 0 ≤ x ∧ x ≤ 255) (hl : t.length ≤ 90)
    (u : Value) (W : World) (hu : Ints W 0 u (cdB c k qs nm p ++ t)) : EfGave u W c k qs nm p ((cdB c k qs nm p).length : Int) true := by
  have hok : efOk (cdB c k qs nm p ++ t) = true := (ef_of_cd hc h ht hl).trans hr
  obtain ⟨e1, e2, e3, e4, e5, e6⟩ := cd_fx hc h ht hl
  refine (impl_ReplyFrom_any u _ W hu).mono ?_
  rintro e w' ⟨q, rfl, o, b⟩
  rw [hok] at o ⊢
  rw [e3] at o
  rw [EfT, e1, e2, e4, e5, e6]
  exact ⟨q, rfl, o, b⟩
theorem inR_13 {c : Int} (h : 1 ≤ c ∧ c ≤ 3) : inR c 1 3 = true := by simp [inR]; omega
theorem inR_08 {c : Int} (h : 0 ≤ c ∧ c ≤ 8) : inR c 0 8 = true := by simp [inR]; omega
theorem rq_back {c k : Int} {qs : List Int} {nm : ByteArray} {p : Int} (h : rqOk c k qs nm p = true) {t : List Int} (ht : ∀ x ∈ t, 0 ≤ x ∧ x ≤ 255) (hl : t.length ≤ 90)
    (u : Value) (W : World) (hu : Ints W 0 u (rqL c k qs nm p ++ t)) : RfGave u W c k qs nm p ((rqL c k qs nm p).length : Int) true := by
  obtain ⟨h1, h2, h3⟩ := rqOk_parts h
  rw [rqL_cd h] at hu ⊢
  exact rf_gave_cd (by omega) (inR_13 ⟨h1, h2⟩) h3 ht hl u W hu
theorem rp_back {c k : Int} {qs : List Int} {nm : ByteArray} {p : Int} (h : rpOk c k qs nm p = true) {t : List Int} (ht : ∀ x ∈ t, 0 ≤ x ∧ x ≤ 255) (hl : t.length ≤ 90)
    (u : Value) (W : World) (hu : Ints W 0 u (rpL c k qs nm p ++ t)) : EfGave u W c k qs nm p ((rpL c k qs nm p).length : Int) true := by
  obtain ⟨h1, h2, h3⟩ := rpOk_parts h
  rw [rpL_cd h] at hu ⊢
  exact ef_gave_cd (by omega) (inR_08 ⟨h1, h2⟩) h3 ht hl u W hu
theorem rq_back0 {c k : Int} {qs : List Int} {nm : ByteArray} {p : Int} (h : rqOk c k qs nm p = true) (u : Value) (W : World) (hu : Ints W 0 u (rqL c k qs nm p)) : RfGave u W c k qs nm p ((rqL c k qs nm p).length : Int) true :=
  rq_back h (t := []) (by simp) (by simp) u W (by rw [List.append_nil]; exact hu)
theorem rp_back0 {c k : Int} {qs : List Int} {nm : ByteArray} {p : Int} (h : rpOk c k qs nm p = true) (u : Value) (W : World) (hu : Ints W 0 u (rpL c k qs nm p)) : EfGave u W c k qs nm p ((rpL c k qs nm p).length : Int) true :=
  rp_back h (t := []) (by simp) (by simp) u W (by rw [List.append_nil]; exact hu)
theorem rq_cut {c k : Int} {qs : List Int} {nm : ByteArray} {p : Int} (h : rqOk c k qs nm p = true) {j : Nat} (hj : j < (rqL c k qs nm p).length) (u : Value) (W : World) (hu : Ints W 0 u ((rqL c k qs nm p).take j)) : RfGave u W 0 0 [] ByteArray.empty 0 0 false := by
  rw [rqL_cd h] at hj hu
  exact rf_gave_not (rf_cut (rqOk_parts h).2.2 hj).1 u W hu
theorem rp_cut {c k : Int} {qs : List Int} {nm : ByteArray} {p : Int} (h : rpOk c k qs nm p = true) {j : Nat} (hj : j < (rpL c k qs nm p).length) (u : Value) (W : World) (hu : Ints W 0 u ((rpL c k qs nm p).take j)) : EfGave u W 0 0 [] ByteArray.empty 0 0 false := by
  rw [rpL_cd h] at hj hu
  exact ef_gave_not (rf_cut (rpOk_parts h).2.2 hj).2 u W hu
/-- A reply's bytes, read as a request. -/
theorem rp_rf {c k : Int} {qs : List Int} {nm : ByteArray} {p : Int} (h : rpOk c k qs nm p = true) (hr : 1 ≤ c ∧ c ≤ 3) (u : Value) (W : World) (hu : Ints W 0 u (rpL c k qs nm p)) : RfGave u W c k qs nm p ((rpL c k qs nm p).length : Int) true := by
  obtain ⟨h1, h2, h3⟩ := rpOk_parts h
  rw [rpL_cd h] at hu ⊢
  exact rf_gave_cd (by omega) (inR_13 hr) h3 (t := []) (by simp) (by simp) u W (by rw [List.append_nil]; exact hu)
theorem rp_rf_not {c k : Int} {qs : List Int} {nm : ByteArray} {p : Int} (h : rpOk c k qs nm p = true) (hr : ¬ (1 ≤ c ∧ c ≤ 3)) (u : Value) (W : World) (hu : Ints W 0 u (rpL c k qs nm p)) : RfGave u W 0 0 [] ByteArray.empty 0 0 false := by
  obtain ⟨h1, h2, h3⟩ := rpOk_parts h
  rw [rpL_cd h] at hu
  refine rf_gave_not ?_ u W hu
  have e := rf_of_cd (c := c) (t := []) (by omega) h3 (by simp) (by simp)
  rw [List.append_nil] at e
  rw [e]
  simp [inR]
  omega
/-- Another first byte, another third byte. -/
theorem rq_version {L : List Int} (u : Value) (W : World) (hu : Ints W 0 u (4 :: L.drop 1)) : RfGave u W 0 0 [] ByteArray.empty 0 0 false := rf_gave_not (rf_version (by simp)) u W hu
theorem rq_third {L : List Int} (hl : 7 ≤ L.length) (u : Value) (W : World) (hu : Ints W 0 u (L.set 2 1)) : RfGave u W 0 0 [] ByteArray.empty 0 0 false :=
  rf_gave_not (rf_third (by simp [List.getD, (by omega : 2 < L.length)])) u W hu
end Go.Proofs.YtahlgdehfjjoeaaDoor

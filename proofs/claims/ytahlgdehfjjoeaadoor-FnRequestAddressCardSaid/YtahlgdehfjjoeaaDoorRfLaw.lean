/-
  What RequestFrom and ReplyFrom make of bytes, as plain functions, and their laws; plain laws, no walk. Conditions: none.
-/
import Derived.Test.YtahlgdehfjjoeaaDoorCodeBytes
namespace Go.Proofs.YtahlgdehfjjoeaaDoor
open Go.RowKit

/-- Bytes begin with a request. -/
def rfOk (zs : List Int) : Bool := cfOk zs && inR (zs.getD 1 0) 1 3
/-- Bytes begin with a reply. -/
def efOk (zs : List Int) : Bool := cfOk zs && inR (zs.getD 1 0) 0 8
def fxC (b : Bool) (zs : List Int) : Int := if b = true then zs.getD 1 0 else 0
def fxK (b : Bool) (zs : List Int) : Int := if b = true then (zs.drop 3).getD 0 0 else 0
def fxQ (b : Bool) (zs : List Int) : List Int := if b = true then aQ (zs.drop 3) else []
def fxM (b : Bool) (zs : List Int) : ByteArray := if b = true then aM (zs.drop 3) else ByteArray.empty
def fxP (b : Bool) (zs : List Int) : Int := if b = true then aP (zs.drop 3) else 0
def fxN (b : Bool) (zs : List Int) : Int := if b = true then ((3 + aN (zs.drop 3) : Nat) : Int) else 0

theorem rfOk_cf {zs : List Int} (h : rfOk zs = true) : cfOk zs = true ∧ inR (zs.getD 1 0) 1 3 = true := by simpa [rfOk] using h
theorem efOk_cf {zs : List Int} (h : efOk zs = true) : cfOk zs = true ∧ inR (zs.getD 1 0) 0 8 = true := by simpa [efOk] using h
theorem cf_ad {zs : List Int} (h : cfOk zs = true) : adOk ((zs.drop 3).getD 0 0) (aQ (zs.drop 3)) (aM (zs.drop 3)) (aP (zs.drop 3)) = true := (afOk_parts (cfOk_parts h).2.2.2.2).2
theorem cf_byte {zs : List Int} (h : cfOk zs = true) : 0 ≤ zs.getD 1 0 ∧ zs.getD 1 0 ≤ 255 := by
  obtain ⟨hv, hl, _⟩ := cfOk_parts h
  exact bytes_of_valid hv _ (by simp [List.getD, (by omega : 1 < zs.length)])
/-- What was read has valid parts. -/
theorem rf_rq {zs : List Int} (h : rfOk zs = true) : rqOk (fxC true zs) (fxK true zs) (fxQ true zs) (fxM true zs) (fxP true zs) = true := by
  obtain ⟨h1, h2⟩ := rfOk_cf h
  simp only [fxC, fxK, fxQ, fxM, fxP, if_true]
  rw [rqOk, h2, cf_ad h1]
  rfl
theorem ef_rp {zs : List Int} (h : efOk zs = true) : rpOk (fxC true zs) (fxK true zs) (fxQ true zs) (fxM true zs) (fxP true zs) = true := by
  obtain ⟨h1, h2⟩ := efOk_cf h
  simp only [fxC, fxK, fxQ, fxM, fxP, if_true]
  rw [rpOk, h2, cf_ad h1]
  rfl
theorem fxQ_len (b : Bool) (zs : List Int) (h : b = true → cfOk zs = true) : (fxQ b zs).length ≤ 4 := by
  cases b
  · simp [fxQ]
  · simp only [fxQ, if_true]
    exact (adOk_sizes (cf_ad (h rfl))).1
theorem fxM_len (b : Bool) (zs : List Int) (h : b = true → cfOk zs = true) : (fxM b zs).size ≤ 20 := by
  cases b
  · exact Nat.zero_le _
  · simp only [fxM, if_true]
    exact (adOk_sizes (cf_ad (h rfl))).2

/-! out of the bytes of a request or a reply -/
theorem rqOk_parts {c k : Int} {qs : List Int} {nm : ByteArray} {p : Int} (h : rqOk c k qs nm p = true) : 1 ≤ c ∧ c ≤ 3 ∧ adOk k qs nm p = true := by
  simp only [rqOk, Bool.and_eq_true] at h
  obtain ⟨h1, h2⟩ := h
  simp [inR] at h1
  exact ⟨h1.1, h1.2, h2⟩
theorem rpOk_parts {c k : Int} {qs : List Int} {nm : ByteArray} {p : Int} (h : rpOk c k qs nm p = true) : 0 ≤ c ∧ c ≤ 8 ∧ adOk k qs nm p = true := by
  simp only [rpOk, Bool.and_eq_true] at h
  obtain ⟨h1, h2⟩ := h
  simp [inR] at h1
  exact ⟨h1.1, h1.2, h2⟩
theorem cd_fx {c k : Int} {qs : List Int} {nm : ByteArray} {p : Int} (hc : 0 ≤ c ∧ c ≤ 255) (h : adOk k qs nm p = true) {t : List Int} (ht : ∀ x ∈ t, 0 ≤ x ∧ x ≤ 255) (hl : t.length ≤ 90) :
    fxC true (cdB c k qs nm p ++ t) = c ∧ fxK true (cdB c k qs nm p ++ t) = k ∧ fxQ true (cdB c k qs nm p ++ t) = qs ∧ fxM true (cdB c k qs nm p ++ t) = nm ∧ fxP true (cdB c k qs nm p ++ t) = p ∧ fxN true (cdB c k qs nm p ++ t) = ((cdB c k qs nm p).length : Int) := by
  obtain ⟨_, e1, e2, e3, e4, e5, e6⟩ := cd_back hc h ht hl
  simp only [fxC, fxK, fxQ, fxM, fxP, fxN, if_true]
  rw [e1, e2, e3, e4, e5, e6]
  exact ⟨rfl, rfl, rfl, rfl, rfl, rfl⟩
theorem rf_of_cd {c k : Int} {qs : List Int} {nm : ByteArray} {p : Int} (hc : 0 ≤ c ∧ c ≤ 255) (h : adOk k qs nm p = true) {t : List Int} (ht : ∀ x ∈ t, 0 ≤ x ∧ x ≤ 255) (hl : t.length ≤ 90) : rfOk (cdB c k qs nm p ++ t) = inR c 1 3 := by
  obtain ⟨e0, e1, _⟩ := cd_back hc h ht hl
  rw [rfOk, e0, e1]
  rfl
theorem ef_of_cd {c k : Int} {qs : List Int} {nm : ByteArray} {p : Int} (hc : 0 ≤ c ∧ c ≤ 255) (h : adOk k qs nm p = true) {t : List Int} (ht : ∀ x ∈ t, 0 ≤ x ∧ x ≤ 255) (hl : t.length ≤ 90) : efOk (cdB c k qs nm p ++ t) = inR c 0 8 := by
  obtain ⟨e0, e1, _⟩ := cd_back hc h ht hl
  rw [efOk, e0, e1]
  rfl
theorem rf_cut {c k : Int} {qs : List Int} {nm : ByteArray} {p : Int} (h : adOk k qs nm p = true) {j : Nat} (hj : j < (cdB c k qs nm p).length) : rfOk ((cdB c k qs nm p).take j) = false ∧ efOk ((cdB c k qs nm p).take j) = false := by
  rw [rfOk, efOk, cd_part h hj]
  exact ⟨rfl, rfl⟩
/-- Another version. -/
theorem rf_version {zs : List Int} (h : zs.getD 0 0 ≠ 5) : rfOk zs = false := by
  rw [rfOk, cfOk, decide_eq_false h]
  simp
theorem rf_third {zs : List Int} (h : zs.getD 2 0 ≠ 0) : rfOk zs = false := by
  rw [rfOk, cfOk, decide_eq_false h]
  simp
/-- The bytes of what was read. -/
theorem rf_fore {zs : List Int} (h : rfOk zs = true) : cdB (fxC true zs) (fxK true zs) (fxQ true zs) (fxM true zs) (fxP true zs) = zs.take (3 + aN (zs.drop 3)) ∧ 3 + aN (zs.drop 3) ≤ zs.length := by
  simp only [fxC, fxK, fxQ, fxM, fxP, if_true]
  exact cd_fore (rfOk_cf h).1
theorem ef_fore {zs : List Int} (h : efOk zs = true) : cdB (fxC true zs) (fxK true zs) (fxQ true zs) (fxM true zs) (fxP true zs) = zs.take (3 + aN (zs.drop 3)) ∧ 3 + aN (zs.drop 3) ≤ zs.length := by
  simp only [fxC, fxK, fxQ, fxM, fxP, if_true]
  exact cd_fore (efOk_cf h).1

/-! what both sides return -/
/-- A request, a size and a verdict. -/
def RfT (b : Bool) (zs : List Int) (q : Value) : Value := .tuple #[.agg #[.int .i64 (fxC b zs), .int .i64 (fxK b zs), q, .string (fxM b zs), .int .i64 (fxP b zs)], .int .i64 (fxN b zs), .bool b]
/-- A code, an address, a size and a verdict. -/
def EfT (b : Bool) (zs : List Int) (q : Value) : Value := .tuple #[.int .i64 (fxC b zs), .agg #[.int .i64 (fxK b zs), q, .string (fxM b zs), .int .i64 (fxP b zs)], .int .i64 (fxN b zs), .bool b]
def GaveRf (w : World) (b : Bool) (zs : List Int) (e : Ending) (w' : World) : Prop := ∃ q, e = .returned (RfT b zs q) ∧ Own w' w.heap.size q (fxQ b zs) ∧ Below w.heap.size w w'
def GaveEf (w : World) (b : Bool) (zs : List Int) (e : Ending) (w' : World) : Prop := ∃ q, e = .returned (EfT b zs q) ∧ Own w' w.heap.size q (fxQ b zs) ∧ Below w.heap.size w w'
end Go.Proofs.YtahlgdehfjjoeaaDoor

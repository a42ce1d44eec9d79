/-
  What RequestFrom and ReplyFrom make of bytes, as plain functions, and their laws; plain laws, no walk. Conditions: none.
  The program's codeFrom, RequestFrom and ReplyFrom return plain functions of the bytes; their addresses lie in memory of the call's own. Conditions: the slice reads as a list of integers.
  The program's RequestFrom and ReplyFrom return plain functions of the bytes; their addresses lie in memory of the call's own. Conditions: the slice reads as a list of integers.
-/
import Derived.Test.YtolbkdcnmkmncaaDoorCodeBytes
import Derived.Test.YtolbkdcnmkmncaaDoorRdAd
import Derived.Test.YtolbkdcnmkmncaaDoorReqBytes
import Derived.RegionTactic
import Derived.BigRegion
namespace Go.Proofs.YtolbkdcnmkmncaaDoor
open Go.RowKit

/-- Bytes begin with a request. -/
def rfOk (zs : List Int) : Bool := cfOk zs && inR (zs.getD 1 0) 1 3
/-- Bytes begin with a reply. -/
def efOk (zs : List Int) : Bool := cfOk zs && inR (zs.getD 1 0) 0 8
def fxC (b : Bool) (zs : List Int) : Int := if b = true then zs.getD 1 0 else 0
def fxK (b : Bool) (zs : List Int) : Int := if b = true then (zs.drop 3).getD 0 0 else 0
def fxQ (b : Bool) (zs : List Int) : List Int := if b = true then aQ (zs.drop 3) else []
def fxM (b : Bool) (zs : List Int) : ByteArray := if b = true then aM (zs.drop 3) else ByteArray.empty
def fxP (b : Bool) (zs : List Int) : Int := if b = true then aP (zs.drop 3) else 0
def fxN (b : Bool) (zs : List Int) : Int := if b = true then ((3 + aN (zs.drop 3) : Nat) : Int) else 0

theorem rfOk_cf {zs : List Int} (h : rfOk zs = true) : cfOk zs = true ∧ inR (zs.getD 1 0) 1 3 = true := by simpa [rfOk] using h
theorem efOk_cf {zs : List Int} (h : efOk zs = true) : cfOk zs = true ∧ inR (zs.getD 1 0) 0 8 = true := by simpa [efOk] using h
theorem cf_ad {zs : List Int} (h : cfOk zs = true) : adOk ((zs.drop 3).getD 0 0) (aQ (zs.drop 3)) (aM (zs.drop 3)) (aP (zs.drop 3)) = true := (afOk_parts (cfOk_parts h).2.2.2.2).2
theorem cf_byte {zs : List Int} (h : cfOk zs = true) : 0 ≤ zs.getD 1 0 ∧ zs.getD 1 0 ≤ 255 := by
  obtain ⟨hv, hl, _⟩ := cfOk_parts h
  exact bytes_of_valid hv _ (by simp [List.getD, (by omega : 1 < zs.length)])
/-- What was read has valid parts. -/
theorem rf_rq {zs : List Int} (h : rfOk zs = true) : rqOk (fxC true zs) (fxK true zs) (fxQ true zs) (fxM true zs) (fxP true zs) = true := by
  obtain ⟨h1, h2⟩ := rfOk_cf h
  simp only [fxC, fxK, fxQ, fxM, fxP, if_true]
  rw [rqOk, h2, cf_ad h1]
  rfl
theorem ef_rp {zs : List Int} (h : efOk zs = true) : rpOk (fxC true zs) (fxK true zs) (fxQ true zs) (fxM true zs) (fxP true zs) = true := by
  obtain ⟨h1, h2⟩ := efOk_cf h
  simp only [fxC, fxK, fxQ, fxM, fxP, if_true]
  rw [rpOk, h2, cf_ad h1]
  rfl
theorem fxQ_len (b : Bool) (zs : List Int) (h : b = true → cfOk zs = true) : (fxQ b zs).length ≤ 4 := by
  cases b
  · simp [fxQ]
  · simp only [fxQ, if_true]
    exact (adOk_sizes (cf_ad (h rfl))).1
theorem fxM_len (b : Bool) (zs : List Int) (h : b = true → cfOk zs = true) : (fxM b zs).size ≤ 20 := by
  cases b
  · exact Nat.zero_le _
  · simp only [fxM, if_true]
    exact (adOk_sizes (cf_ad (h rfl))).2

/-! out of the bytes of a request or a reply -/
theorem rqOk_parts {c k : Int} {qs : List Int} {nm : ByteArray} {p : Int} (h : rqOk c k qs nm p = true) : 1 ≤ c ∧ c ≤ 3 ∧ adOk k qs nm p = true := by
  simp only [rqOk, Bool.and_eq_true] at h
  obtain ⟨h1, h2⟩ := h
  simp [inR] at h1
  exact ⟨h1.1, h1.2, h2⟩
theorem rpOk_parts {c k : Int} {qs : List Int} {nm : ByteArray} {p : Int} (h : rpOk c k qs nm p = true) : 0 ≤ c ∧ c ≤ 8 ∧ adOk k qs nm p = true := by
  simp only [rpOk, Bool.and_eq_true] at h
  obtain ⟨h1, h2⟩ := h
  simp [inR] at h1
  exact ⟨h1.1, h1.2, h2⟩
theorem cd_fx {c k : Int} {qs : List Int} {nm : ByteArray} {p : Int} (hc : 0 ≤ c ∧ c ≤ 255) (h : adOk k qs nm p = true) {t : List Int} (ht : ∀ x ∈ t, 0 ≤ x ∧ x ≤ 255) (hl : t.length ≤ 90) :
    fxC true (cdB c k qs nm p ++ t) = c ∧ fxK true (cdB c k qs nm p ++ t) = k ∧ fxQ true (cdB c k qs nm p ++ t) = qs ∧ fxM true (cdB c k qs nm p ++ t) = nm ∧ fxP true (cdB c k qs nm p ++ t) = p ∧ fxN true (cdB c k qs nm p ++ t) = ((cdB c k qs nm p).length : Int) := by
  obtain ⟨_, e1, e2, e3, e4, e5, e6⟩ := cd_back hc h ht hl
  simp only [fxC, fxK, fxQ, fxM, fxP, fxN, if_true]
  rw [e1, e2, e3, e4, e5, e6]
  exact ⟨rfl, rfl, rfl, rfl, rfl, rfl⟩
theorem rf_of_cd {c k : Int} {qs : List Int} {nm : ByteArray} {p : Int} (hc : 0 ≤ c ∧ c ≤ 255) (h : adOk k qs nm p = true) {t : List Int} (ht : ∀ x ∈ t, 0 ≤ x ∧ x ≤ 255) (hl : t.length ≤ 90) : rfOk (cdB c k qs nm p ++ t) = inR c 1 3 := by
  obtain ⟨e0, e1, _⟩ := cd_back hc h ht hl
  rw [rfOk, e0, e1]
  rfl
theorem ef_of_cd {c k : Int} {qs : List Int} {nm : ByteArray} {p : Int} (hc : 0 ≤ c ∧ c ≤ 255) (h : adOk k qs nm p = true) {t : List Int} (ht : ∀ x ∈ t, 0 ≤ x ∧ x ≤ 255) (hl : t.length ≤ 90) : efOk (cdB c k qs nm p ++ t) = inR c 0 8 := by
  obtain ⟨e0, e1, _⟩ := cd_back hc h ht hl
  rw [efOk, e0, e1]
  rfl
theorem rf_cut {c k : Int} {qs : List Int} {nm : ByteArray} {p : Int} (h : adOk k qs nm p = true) {j : Nat} (hj : j < (cdB c k qs nm p).length) : rfOk ((cdB c k qs nm p).take j) = false ∧ efOk ((cdB c k qs nm p).take j) = false := by
  rw [rfOk, efOk, cd_part h hj]
  exact ⟨rfl, rfl⟩
/-- Another version. -/
theorem rf_version {zs : List Int} (h : zs.getD 0 0 ≠ 5) : rfOk zs = false := by
  rw [rfOk, cfOk, decide_eq_false h]
  simp
theorem rf_third {zs : List Int} (h : zs.getD 2 0 ≠ 0) : rfOk zs = false := by
  rw [rfOk, cfOk, decide_eq_false h]
  simp
/-- The bytes of what was read. -/
theorem rf_fore {zs : List Int} (h : rfOk zs = true) : cdB (fxC true zs) (fxK true zs) (fxQ true zs) (fxM true zs) (fxP true zs) = zs.take (3 + aN (zs.drop 3)) ∧ 3 + aN (zs.drop 3) ≤ zs.length := by
  simp only [fxC, fxK, fxQ, fxM, fxP, if_true]
  exact cd_fore (rfOk_cf h).1
theorem ef_fore {zs : List Int} (h : efOk zs = true) : cdB (fxC true zs) (fxK true zs) (fxQ true zs) (fxM true zs) (fxP true zs) = zs.take (3 + aN (zs.drop 3)) ∧ 3 + aN (zs.drop 3) ≤ zs.length := by
  simp only [fxC, fxK, fxQ, fxM, fxP, if_true]
  exact cd_fore (efOk_cf h).1

/-! what both sides return -/
/-- A request, a size and a verdict. -/
def RfT (b : Bool) (zs : List Int) (q : Value) : Value := .tuple #[.agg #[.int .i64 (fxC b zs), .int .i64 (fxK b zs), q, .string (fxM b zs), .int .i64 (fxP b zs)], .int .i64 (fxN b zs), .bool b]
/-- A code, an address, a size and a verdict. -/
def EfT (b : Bool) (zs : List Int) (q : Value) : Value := .tuple #[.int .i64 (fxC b zs), .agg #[.int .i64 (fxK b zs), q, .string (fxM b zs), .int .i64 (fxP b zs)], .int .i64 (fxN b zs), .bool b]
def GaveRf (w : World) (b : Bool) (zs : List Int) (e : Ending) (w' : World) : Prop := ∃ q, e = .returned (RfT b zs q) ∧ Own w' w.heap.size q (fxQ b zs) ∧ Below w.heap.size w w'
def GaveEf (w : World) (b : Bool) (zs : List Int) (e : Ending) (w' : World) : Prop := ∃ q, e = .returned (EfT b zs q) ∧ Own w' w.heap.size q (fxQ b zs) ∧ Below w.heap.size w w'
end Go.Proofs.YtolbkdcnmkmncaaDoor
namespace Go.Proofs.YtolbkdcnmkmncaaDoor
open Go.RowKit

/-- A struct of five cells is stored, whole. -/
def st5 (w : World) (B : Nat) (x y z u v : Value) : World := (st4 w B x y z u).setCell ⟨B, 4, none⟩ v
theorem Own.st5 {w : World} {base B : Nat} {s x y z u v : Value} {zs : List Int} (h : Own w base s zs) (hb : B < base) : Own (Go.Proofs.YtolbkdcnmkmncaaDoor.st5 w B x y z u v) base s zs := (h.st4 hb).far hb v
theorem below_st5 {B0 : Nat} {w W : World} {g : Nat} (h : Below B0 w W) (hg : B0 ≤ g) (x y z u v : Value) : Below B0 w (st5 W g x y z u v) := (below_st4 h hg x y z u).setCell (p := ⟨g, 4, none⟩) hg v

/-- A code, an address, the place, and whether the reader has not failed. -/
def GaveCf (w : World) (zs : List Int) (e : Ending) (w' : World) : Prop :=
  ∃ q, e = .returned (.tuple #[.int .i64 (rByte zs (cfS1 zs)), .agg #[.int .i64 (raK zs (cfS3 zs)), q, .string (raM zs (cfS3 zs)), .int .i64 (raP zs (cfS3 zs))], .int .i64 ((cfEnd zs).1 : Int), .bool (cfOk zs)]) ∧
    Own w' w.heap.size q (raQ zs (cfS3 zs)) ∧ Below w.heap.size w w'

set_option maxRecDepth 100000 in
set_option maxHeartbeats 4000000 in
theorem codeFrom_any (v : Value) (zs : List Int) (w : World) (hv : Ints w 0 v zs) : Calls Tryd.prog 60 #[v] w fun e w' => GaveCf w zs e w' := by
  have HV := Lib.hid hv
  obtain ⟨C, hC⟩ : ∃ C, rByte zs (cfS1 zs) = C := ⟨_, rfl⟩
  obtain ⟨K, hK⟩ : ∃ K, raK zs (cfS3 zs) = K := ⟨_, rfl⟩
  obtain ⟨M, hM⟩ : ∃ M, raM zs (cfS3 zs) = M := ⟨_, rfl⟩
  obtain ⟨P, hP⟩ : ∃ P, raP zs (cfS3 zs) = P := ⟨_, rfl⟩
  obtain ⟨Q, hQ⟩ : ∃ Q, raQ zs (cfS3 zs) = Q := ⟨_, rfl⟩
  obtain ⟨N, hN⟩ : ∃ N, (cfEnd zs).1 = N := ⟨_, rfl⟩
  obtain ⟨b, hb⟩ : ∃ b, (cfEnd zs).2 = b := ⟨_, rfl⟩
  have ET : Hid (∀ q, Value.tuple #[.int .i64 (rByte zs (cfS1 zs)), .agg #[.int .i64 (raK zs (cfS3 zs)), q, .string (raM zs (cfS3 zs)), .int .i64 (raP zs (cfS3 zs))], .int .i64 ((cfEnd zs).1 : Int), .bool (cfOk zs)] = .tuple #[.int .i64 C, .agg #[.int .i64 K, q, .string M, .int .i64 P], .int .i64 (N : Int), .bool (!b)]) := Lib.hid fun q => by rw [← cf_ok, hC, hK, hM, hP, hN, hb]
  have EA : Hid (∀ q, Value.agg #[.int .i64 (raK zs (cfS3 zs)), q, .string (raM zs (cfS3 zs)), .int .i64 (raP zs (cfS3 zs))] = .agg #[.int .i64 K, q, .string M, .int .i64 P]) := Lib.hid fun q => by rw [hK, hM, hP]
  have EC := Lib.hid hC
  have EQ := Lib.hid hQ
  have EN := Lib.hid hN
  have EB := Lib.hid hb
  clear hv hC hK hM hP hQ hN hb
  go_enter Tryd.func60, Tryd.ntmps60
  go_wp2_with fail
  refine (newReader_any _ zs _ (HV.out.alloc _)).mono ?_
  rintro e w1 ⟨rfl, r1, b1⟩
  simp only [World.size_alloc] at r1 b1 ⊢
  have K1 := Lib.hid ((Blk.new w 26 #[.int .i64 0, .slice none 0 0, .string .empty, .int .i64 0]).below b1 (Nat.lt_succ_self _))
  have R1 := Lib.hid r1
  have B1 : Hid (Below w.heap.size w w1) := Lib.hid (((Below.refl _ _).alloc (Nat.le_refl _) _).trans (b1.mono (Nat.le_succ _)))
  have z1 := r1.lt
  clear r1 b1
  go_wp2_with fail
  refine (expect_any _ _ _ zs [5] _ _ (R1.out.alloc _) (lit1 _ _) (by simp)).mono ?_
  rintro e w2 ⟨rfl, t2⟩
  have K2 := Lib.hid ((K1.out.alloc (.cells #[.int .i64 5] 3)).grown t2.2 (by intro h; injection h with h; omega))
  have R2 : Hid (Rdr w2 (w.heap.size + 1) v zs (cfS1 zs)) := Lib.hid t2.1
  have z2 := t2.2.size
  simp at z2
  have B2 := Lib.hid (below_only (B1.out.alloc (by omega) (.cells #[.int .i64 5] 3)) t2.2 (by simp; omega) (Nat.le_succ _))
  clear t2 R1 K1
  go_wp2_with fail
  refine (byte_any _ _ zs _ _ R2.out).mono ?_
  rintro e w3 ⟨rfl, t3⟩
  rw [EC.out]
  have K3 := Lib.hid (K2.out.grown t3.2 (by intro h; injection h with h; omega))
  have R3 : Hid (Rdr w3 (w.heap.size + 1) v zs (cfS2 zs)) := Lib.hid t3.1
  have z3 := t3.2.size
  have B3 := Lib.hid (below_only B2.out t3.2 (by omega) (Nat.le_succ _))
  clear t3 R2 K2
  go_wp2_with fail
  refine (expect_any _ _ _ zs [0] _ _ (R3.out.alloc _) (lit1 _ _) (by simp)).mono ?_
  rintro e w4 ⟨rfl, t4⟩
  have K4 := Lib.hid ((K3.out.alloc (.cells #[.int .i64 0] 3)).grown t4.2 (by intro h; injection h with h; omega))
  have R4 : Hid (Rdr w4 (w.heap.size + 1) v zs (cfS3 zs)) := Lib.hid t4.1
  have z4 := t4.2.size
  simp at z4
  have B4 := Lib.hid (below_only (B3.out.alloc (by omega) (.cells #[.int .i64 0] 3)) t4.2 (by simp; omega) (Nat.le_succ _))
  clear t4 R3 K3
  go_wp2_with fail
  refine (address_any _ _ zs _ _ R4.out).mono ?_
  rintro e w5 ⟨q, rfl, o5, t5⟩
  rw [EA.out]
  rw [EQ.out] at o5
  obtain ⟨A5, c5, rfl, _, _, _⟩ := o5.form
  have K5 := Lib.hid (K4.out.grown t5.2 (by intro h; injection h with h; omega))
  have z5 := t5.2.size
  have B5 := Lib.hid (below_only B4.out t5.2 (by omega) (Nat.le_succ _))
  have O5 := Lib.hid o5
  have R5 := t5.1
  have d1 := R5.c1
  have d2 := R5.c2
  have e1 : (raEnd zs (cfS3 zs)).1 = N := EN.out
  have e2 : (raEnd zs (cfS3 zs)).2 = b := EB.out
  rw [e1] at d1
  rw [e2] at d2
  have K5A := Lib.hid (K5.out.alloc (.cells #[.int .i64 K, .slice A5 Q.length c5, .string M, .int .i64 P] 26))
  have X5 := Lib.hid (Blk.new w5 26 #[.int .i64 K, .slice A5 Q.length c5, .string M, .int .i64 P])
  have O5A := Lib.hid (o5.alloc (.cells #[.int .i64 K, .slice A5 Q.length c5, .string M, .int .i64 P] 26))
  have B5A := Lib.hid (B5.out.alloc B5.out.size (.cells #[.int .i64 K, .slice A5 Q.length c5, .string M, .int .i64 P] 26))
  have z6 := X5.out.lt
  obtain ⟨V, hV⟩ : ∃ V, w5.alloc (.cells #[.int .i64 K, .slice A5 Q.length c5, .string M, .int .i64 P] 26) = V := ⟨_, rfl⟩
  have HV5 := Lib.hid hV
  have g1 : (w5.alloc (.cells #[.int .i64 K, .slice A5 Q.length c5, .string M, .int .i64 P] 26)).cell? ⟨w.heap.size + 1, 1, none⟩ = some (.int .i64 (N : Int)) := (R5.alloc _).c1.trans (by rw [e1])
  have g2 : (w5.alloc (.cells #[.int .i64 K, .slice A5 Q.length c5, .string M, .int .i64 P] 26)).cell? ⟨w.heap.size + 1, 2, none⟩ = some (.bool b) := (R5.alloc _).c2.trans (by rw [e2])
  have x0 : (w5.alloc (.cells #[.int .i64 K, .slice A5 Q.length c5, .string M, .int .i64 P] 26)).cell? ⟨w5.heap.size, 0, none⟩ = some (.int .i64 K) := X5.out.cell 0
  have x1 : (w5.alloc (.cells #[.int .i64 K, .slice A5 Q.length c5, .string M, .int .i64 P] 26)).cell? ⟨w5.heap.size, 1, none⟩ = some (.slice A5 Q.length c5) := X5.out.cell 1
  have x2 : (w5.alloc (.cells #[.int .i64 K, .slice A5 Q.length c5, .string M, .int .i64 P] 26)).cell? ⟨w5.heap.size, 2, none⟩ = some (.string M) := X5.out.cell 2
  have x3 : (w5.alloc (.cells #[.int .i64 K, .slice A5 Q.length c5, .string M, .int .i64 P] 26)).cell? ⟨w5.heap.size, 3, none⟩ = some (.int .i64 P) := X5.out.cell 3
  have a0 : (w5.alloc (.cells #[.int .i64 K, .slice A5 Q.length c5, .string M, .int .i64 P] 26)).cell? ⟨w.heap.size, 0, none⟩ = some (.int .i64 0) := K5A.out.cell 0
  have a1 : (w5.alloc (.cells #[.int .i64 K, .slice A5 Q.length c5, .string M, .int .i64 P] 26)).cell? ⟨w.heap.size, 1, none⟩ = some (.slice none 0 0) := K5A.out.cell 1
  have a2 : (w5.alloc (.cells #[.int .i64 K, .slice A5 Q.length c5, .string M, .int .i64 P] 26)).cell? ⟨w.heap.size, 2, none⟩ = some (.string .empty) := K5A.out.cell 2
  have a3 : (w5.alloc (.cells #[.int .i64 K, .slice A5 Q.length c5, .string M, .int .i64 P] 26)).cell? ⟨w.heap.size, 3, none⟩ = some (.int .i64 0) := K5A.out.cell 3
  have f0 := K5A.out.free 0
  have f1 := K5A.out.free 1
  have f2 := K5A.out.free 2
  have f3 := K5A.out.free 3
  clear o5 t5 R5 R4 K4 e1 e2 d1 d2
  have n1 : w.heap.size ≠ w.heap.size + 1 := by omega
  have n2 : w.heap.size + 1 ≠ w.heap.size := by omega
  have n3 : w.heap.size ≠ w5.heap.size := by omega
  have n4 : w.heap.size + 1 ≠ w5.heap.size := by omega
  rw [hV] at K5A X5 O5A B5A z6
  go_wp2_with fail
  rw [hV] at g1 g2 x0 x1 x2 x3 a0 a1 a2 a3 f0 f1 f2 f3
  clear hV
  go_region
  go_wp2_with fail
  refine bodyPost_ret (v := .tuple #[.int .i64 C, .agg #[.int .i64 K, .slice A5 Q.length c5, .string M, .int .i64 P], .int .i64 (N : Int), .bool (!b)]) (by simp [results, Tryd.results60, go_sem, a0, a1, a2, a3]) rfl ?_
  exact ⟨_, by rw [ET.out], by rw [EQ.out]; exact (O5A.out.drew.st4 (by omega)).more (by omega), below_st4 B5A.out.drew (Nat.le_refl _) _ _ _ _⟩
end Go.Proofs.YtolbkdcnmkmncaaDoor
namespace Go.Proofs.YtolbkdcnmkmncaaDoor
open Go.RowKit

/-- codeFrom's own shape. -/
def CfGave (f : FuncId) (u : Value) (W : World) (C K : Int) (Q : List Int) (M : ByteArray) (P N : Int) (b : Bool) : Prop :=
  Calls Tryd.prog f #[u] W fun e w' => ∃ q, e = .returned (.tuple #[.int .i64 C, .agg #[.int .i64 K, q, .string M, .int .i64 P], .int .i64 N, .bool b]) ∧ Own w' W.heap.size q Q ∧ Below W.heap.size W w'
theorem codeFrom_ok {zs : List Int} (h : cfOk zs = true) (u : Value) (W : World) (hu : Ints W 0 u zs) :
    CfGave 60 u W (zs.getD 1 0) ((zs.drop 3).getD 0 0) (aQ (zs.drop 3)) (aM (zs.drop 3)) (aP (zs.drop 3)) ((3 + aN (zs.drop 3) : Nat) : Int) true := by
  obtain ⟨e1, e2, e3, e4, e5, e6⟩ := cf_state h
  refine (codeFrom_any u zs W hu).mono ?_
  rintro e w' ⟨q, rfl, o, b⟩
  rw [e1, e2, e3, e5, e6, h]
  rw [e4] at o
  exact ⟨q, rfl, o, b⟩
theorem codeFrom_not {zs : List Int} (h : cfOk zs = false) : ∃ C K Q M P N, ∀ (u : Value) (W : World), Ints W 0 u zs → CfGave 60 u W C K Q M P N false :=
  ⟨_, _, _, _, _, _, fun u W hu => (codeFrom_any u zs W hu).mono fun e w' ⟨q, h1, h2, h3⟩ => ⟨q, by rw [h1, h], h2, h3⟩⟩

theorem rfT_not {zs : List Int} (h : rfOk zs = false) : (∀ q, RfT (rfOk zs) zs q = .tuple #[.agg #[.int .i64 0, .int .i64 0, q, .string .empty, .int .i64 0], .int .i64 0, .bool false]) ∧ fxQ (rfOk zs) zs = [] := by
  rw [h]; exact ⟨fun _ => rfl, rfl⟩
theorem rfT_yes {zs : List Int} (h : rfOk zs = true) : (∀ q, RfT (rfOk zs) zs q = .tuple #[.agg #[.int .i64 (zs.getD 1 0), .int .i64 ((zs.drop 3).getD 0 0), q, .string (aM (zs.drop 3)), .int .i64 (aP (zs.drop 3))], .int .i64 ((3 + aN (zs.drop 3) : Nat) : Int), .bool true]) ∧ fxQ (rfOk zs) zs = aQ (zs.drop 3) := by
  rw [h]; exact ⟨fun _ => rfl, rfl⟩
theorem efT_not {zs : List Int} (h : efOk zs = false) : (∀ q, EfT (efOk zs) zs q = .tuple #[.int .i64 0, .agg #[.int .i64 0, q, .string .empty, .int .i64 0], .int .i64 0, .bool false]) ∧ fxQ (efOk zs) zs = [] := by
  rw [h]; exact ⟨fun _ => rfl, rfl⟩
theorem efT_yes {zs : List Int} (h : efOk zs = true) : (∀ q, EfT (efOk zs) zs q = .tuple #[.int .i64 (zs.getD 1 0), .agg #[.int .i64 ((zs.drop 3).getD 0 0), q, .string (aM (zs.drop 3)), .int .i64 (aP (zs.drop 3))], .int .i64 ((3 + aN (zs.drop 3) : Nat) : Int), .bool true]) ∧ fxQ (efOk zs) zs = aQ (zs.drop 3) := by
  rw [h]; exact ⟨fun _ => rfl, rfl⟩

set_option maxRecDepth 100000 in
set_option maxHeartbeats 4000000 in
theorem impl_RequestFrom_any (v : Value) (zs : List Int) (w : World) (hv : Ints w 0 v zs) : Calls Tryd.prog 22 #[v] w fun e w' => GaveRf w (rfOk zs) zs e w' := by
  have HV := Lib.hid hv
  have hcases : ∃ C K Q M P N b, (∀ (u : Value) (W : World), Ints W 0 u zs → CfGave 60 u W C K Q M P N b) ∧ (b = false ∧ rfOk zs = false ∨ b = true ∧ rqOk C K Q M P = rfOk zs ∧ M.size < 4294967281 ∧
      (rfOk zs = true → (∀ q, RfT (rfOk zs) zs q = .tuple #[.agg #[.int .i64 C, .int .i64 K, q, .string M, .int .i64 P], .int .i64 N, .bool true]) ∧ fxQ (rfOk zs) zs = Q)) := by
    cases h : cfOk zs
    · obtain ⟨C, K, Q, M, P, N, H⟩ := codeFrom_not h
      exact ⟨C, K, Q, M, P, N, false, H, .inl ⟨rfl, by rw [rfOk, h]; rfl⟩⟩
    · refine ⟨_, _, _, _, _, _, true, fun u W hu => codeFrom_ok h u W hu, .inr ⟨rfl, ?_, ?_, fun h2 => rfT_yes h2⟩⟩
      · rw [rqOk, cf_ad h, rfOk, h, Bool.and_true, Bool.true_and]
      · have := (adOk_sizes (cf_ad h)).2
        omega
  obtain ⟨C, K, Q, M, P, N, b, H, hb⟩ := hcases
  have HC := Lib.hid H
  have HB := Lib.hid hb
  clear hv H hb
  go_enter Tryd.func22, Tryd.ntmps22
  go_wp2_with fail
  refine (HC.out _ _ (HV.out.alloc _)).mono ?_
  rintro e w1 ⟨q, rfl, o1, b1⟩
  obtain ⟨A1, c1, rfl, _, _, _⟩ := o1.form
  have K1 := Lib.hid ((Blk.new w 35 #[.int .i64 0, .int .i64 0, .slice none 0 0, .string .empty, .int .i64 0]).kept b1)
  have B1 : Hid (Below w.heap.size w w1) := Lib.hid (((Below.refl _ _).alloc (Nat.le_refl _) _).trans (b1.mono (by simp)))
  have O1 := Lib.hid (o1.more (base' := w.heap.size + 1) (by simp))
  have z1 := K1.out.lt
  clear o1 b1
  obtain ⟨V1, hV1⟩ : ∃ V1, w1.alloc (.cells #[.int .i64 K, .slice A1 Q.length c1, .string M, .int .i64 P] 26) = V1 := ⟨_, rfl⟩
  obtain ⟨V2, hV2⟩ : ∃ V2, V1.alloc (.cells #[.int .i64 C, .int .i64 K, .slice A1 Q.length c1, .string M, .int .i64 P] 35) = V2 := ⟨_, rfl⟩
  have sz1 : V1.heap.size = w1.heap.size + 1 := by rw [← hV1]; simp
  have X1 : Hid (Blk V1 w1.heap.size 26 #[.int .i64 K, .slice A1 Q.length c1, .string M, .int .i64 P]) := Lib.hid (by rw [← hV1]; exact Blk.new _ _ _)
  have K2 : Hid (Blk V2 w.heap.size 35 #[.int .i64 0, .int .i64 0, .slice none 0 0, .string .empty, .int .i64 0]) := Lib.hid (by rw [← hV2, ← hV1]; exact (K1.out.alloc _).alloc _)
  have X2 : Hid (Blk V2 (w1.heap.size + 1) 35 #[.int .i64 C, .int .i64 K, .slice A1 Q.length c1, .string M, .int .i64 P]) := Lib.hid (by rw [← hV2, ← sz1]; exact Blk.new _ _ _)
  have O2 : Hid (Own V2 (w.heap.size + 1) (.slice A1 Q.length c1) Q) := Lib.hid (by rw [← hV2, ← hV1]; exact (O1.out.alloc _).alloc _)
  have B2 : Hid (Below w.heap.size w V2) := Lib.hid (by rw [← hV2, ← hV1]; exact (B1.out.alloc B1.out.size _).alloc (B1.out.alloc B1.out.size _).size _)
  have y0 : V1.cell? ⟨w1.heap.size, 0, none⟩ = some (.int .i64 K) := X1.out.cell 0
  have y1 : V1.cell? ⟨w1.heap.size, 1, none⟩ = some (.slice A1 Q.length c1) := X1.out.cell 1
  have y2 : V1.cell? ⟨w1.heap.size, 2, none⟩ = some (.string M) := X1.out.cell 2
  have y3 : V1.cell? ⟨w1.heap.size, 3, none⟩ = some (.int .i64 P) := X1.out.cell 3
  have r0 : V2.cell? ⟨w.heap.size, 0, none⟩ = some (.int .i64 0) := K2.out.cell 0
  have r1 : V2.cell? ⟨w.heap.size, 1, none⟩ = some (.int .i64 0) := K2.out.cell 1
  have r2 : V2.cell? ⟨w.heap.size, 2, none⟩ = some (.slice none 0 0) := K2.out.cell 2
  have r3 : V2.cell? ⟨w.heap.size, 3, none⟩ = some (.string .empty) := K2.out.cell 3
  have r4 : V2.cell? ⟨w.heap.size, 4, none⟩ = some (.int .i64 0) := K2.out.cell 4
  have f0 := K2.out.free 0
  have f1 := K2.out.free 1
  have f2 := K2.out.free 2
  have f3 := K2.out.free 3
  have f4 := K2.out.free 4
  have x0 : V2.cell? ⟨w1.heap.size + 1, 0, none⟩ = some (.int .i64 C) := X2.out.cell 0
  have x1 : V2.cell? ⟨w1.heap.size + 1, 1, none⟩ = some (.int .i64 K) := X2.out.cell 1
  have x2 : V2.cell? ⟨w1.heap.size + 1, 2, none⟩ = some (.slice A1 Q.length c1) := X2.out.cell 2
  have x3 : V2.cell? ⟨w1.heap.size + 1, 3, none⟩ = some (.string M) := X2.out.cell 3
  have x4 : V2.cell? ⟨w1.heap.size + 1, 4, none⟩ = some (.int .i64 P) := X2.out.cell 4
  have n1 : w.heap.size ≠ w1.heap.size + 1 := by omega
  have n2 : w1.heap.size + 1 ≠ w.heap.size := by omega
  rcases HB.out with ⟨rfl, hr⟩ | ⟨rfl, hr, hM, hT⟩
  · obtain ⟨t1, t2⟩ := rfT_not hr
    have T1 := Lib.hid t1
    have T2 := Lib.hid t2
    clear t1 t2 hr
    go_wp2_with fail
    refine bodyPost_ret (v := .tuple #[.agg #[.int .i64 0, .int .i64 0, .slice none 0 0, .string .empty, .int .i64 0], .int .i64 0, .bool false]) (by simp [results, Tryd.results22, go_sem, r0, r1, r2, r3, r4]; try rfl) rfl ?_
    exact ⟨_, by rw [T1.out], by rw [T2.out]; exact Own.nil_ _ _, below_st5 B2.out (Nat.le_refl _) _ _ _ _ _⟩
  · have HM := Lib.hid hM
    have HR := Lib.hid hr
    have HT := Lib.hid hT
    clear r0 r1 r2 r3 r4 f0 f1 f2 f3 f4 hr hM hT
    go_wp2_with fail
    refine (isRequest_any C K _ M P Q _ O2.out.ints.zero HM.out).mono ?_
    rintro e w3 ⟨rfl, b3⟩
    rw [HR.out]
    have K3 := Lib.hid (K2.out.kept b3)
    have X3 := Lib.hid (X2.out.kept b3)
    have O3 := Lib.hid (O2.out.below b3)
    have B3 := Lib.hid (B2.out.trans (b3.mono B2.out.size))
    have r0 : w3.cell? ⟨w.heap.size, 0, none⟩ = some (.int .i64 0) := K3.out.cell 0
    have r1 : w3.cell? ⟨w.heap.size, 1, none⟩ = some (.int .i64 0) := K3.out.cell 1
    have r2 : w3.cell? ⟨w.heap.size, 2, none⟩ = some (.slice none 0 0) := K3.out.cell 2
    have r3 : w3.cell? ⟨w.heap.size, 3, none⟩ = some (.string .empty) := K3.out.cell 3
    have r4 : w3.cell? ⟨w.heap.size, 4, none⟩ = some (.int .i64 0) := K3.out.cell 4
    have f0 := K3.out.free 0
    have f1 := K3.out.free 1
    have f2 := K3.out.free 2
    have f3 := K3.out.free 3
    have f4 := K3.out.free 4
    clear b3 x0 x1 x2 x3 x4 y0 y1 y2 y3
    have x0 : w3.cell? ⟨w1.heap.size + 1, 0, none⟩ = some (.int .i64 C) := X3.out.cell 0
    have x1 : w3.cell? ⟨w1.heap.size + 1, 1, none⟩ = some (.int .i64 K) := X3.out.cell 1
    have x2 : w3.cell? ⟨w1.heap.size + 1, 2, none⟩ = some (.slice A1 Q.length c1) := X3.out.cell 2
    have x3 : w3.cell? ⟨w1.heap.size + 1, 3, none⟩ = some (.string M) := X3.out.cell 3
    have x4 : w3.cell? ⟨w1.heap.size + 1, 4, none⟩ = some (.int .i64 P) := X3.out.cell 4
    cases hrf : rfOk zs
    · obtain ⟨t1, t2⟩ := rfT_not hrf
      have T1 := Lib.hid t1
      have T2 := Lib.hid t2
      clear t1 t2 hrf
      go_wp2_with fail
      refine bodyPost_ret (v := .tuple #[.agg #[.int .i64 0, .int .i64 0, .slice none 0 0, .string .empty, .int .i64 0], .int .i64 0, .bool false]) (by simp [results, Tryd.results22, go_sem, r0, r1, r2, r3, r4]; try rfl) rfl ?_
      exact ⟨_, by rw [T1.out], by rw [T2.out]; exact Own.nil_ _ _, below_st5 B3.out (Nat.le_refl _) _ _ _ _ _⟩
    · obtain ⟨t1, t2⟩ := HT.out hrf
      have T1 := Lib.hid t1
      have T2 := Lib.hid t2
      clear t1 t2 hrf
      go_wp2_with fail
      refine bodyPost_ret (v := .tuple #[.agg #[.int .i64 C, .int .i64 K, .slice A1 Q.length c1, .string M, .int .i64 P], .int .i64 N, .bool true]) (by simp [results, Tryd.results22, go_sem, r0, r1, r2, r3, r4]; try rfl) rfl ?_
      exact ⟨_, by rw [T1.out], by rw [T2.out]; exact (O3.out.st5 (Nat.lt_succ_self _)).more (Nat.le_succ _), below_st5 B3.out (Nat.le_refl _) _ _ _ _ _⟩

set_option maxRecDepth 100000 in
set_option maxHeartbeats 4000000 in
theorem impl_ReplyFrom_any (v : Value) (zs : List Int) (w : World) (hv : Ints w 0 v zs) : Calls Tryd.prog 16 #[v] w fun e w' => GaveEf w (efOk zs) zs e w' := by
  have HV := Lib.hid hv
  have hcases : ∃ C K Q M P N b, (∀ (u : Value) (W : World), Ints W 0 u zs → CfGave 60 u W C K Q M P N b) ∧ (b = false ∧ efOk zs = false ∨ b = true ∧ (C ≤ 8 ∨ 8 < C ∧ efOk zs = false) ∧
      (C ≤ 8 → efOk zs = true ∧ (∀ q, EfT (efOk zs) zs q = .tuple #[.int .i64 C, .agg #[.int .i64 K, q, .string M, .int .i64 P], .int .i64 N, .bool true]) ∧ fxQ (efOk zs) zs = Q)) := by
    cases h : cfOk zs
    · obtain ⟨C, K, Q, M, P, N, H⟩ := codeFrom_not h
      exact ⟨C, K, Q, M, P, N, false, H, .inl ⟨rfl, by rw [efOk, h]; rfl⟩⟩
    · have hb := cf_byte h
      have hE : efOk zs = decide (zs.getD 1 0 ≤ 8) := by rw [efOk, h, inR, decide_eq_true hb.1]; rfl
      refine ⟨_, _, _, _, _, _, true, fun u W hu => codeFrom_ok h u W hu, .inr ⟨rfl, ?_, fun h2 => ?_⟩⟩
      · by_cases h2 : zs.getD 1 0 ≤ 8
        · exact .inl h2
        · exact .inr ⟨by omega, by rw [hE, decide_eq_false h2]⟩
      · have h3 : efOk zs = true := by rw [hE, decide_eq_true h2]
        exact ⟨h3, efT_yes h3⟩
  obtain ⟨C, K, Q, M, P, N, b, H, hb⟩ := hcases
  have HC := Lib.hid H
  have HB := Lib.hid hb
  clear hv H hb
  go_enter Tryd.func16, Tryd.ntmps16
  go_wp2_with fail
  refine (HC.out _ _ (HV.out.alloc _)).mono ?_
  rintro e w1 ⟨q, rfl, o1, b1⟩
  obtain ⟨A1, c1, rfl, _, _, _⟩ := o1.form
  have K1 := Lib.hid ((Blk.new w 26 #[.int .i64 0, .slice none 0 0, .string .empty, .int .i64 0]).kept b1)
  have B1 : Hid (Below w.heap.size w w1) := Lib.hid (((Below.refl _ _).alloc (Nat.le_refl _) _).trans (b1.mono (by simp)))
  have O1 := Lib.hid (o1.more (base' := w.heap.size + 1) (by simp))
  have z1 := K1.out.lt
  clear o1 b1
  obtain ⟨V1, hV1⟩ : ∃ V1, w1.alloc (.cells #[.int .i64 K, .slice A1 Q.length c1, .string M, .int .i64 P] 26) = V1 := ⟨_, rfl⟩
  have sz1 : V1.heap.size = w1.heap.size + 1 := by rw [← hV1]; simp
  have X1 : Hid (Blk V1 w1.heap.size 26 #[.int .i64 K, .slice A1 Q.length c1, .string M, .int .i64 P]) := Lib.hid (by rw [← hV1]; exact Blk.new _ _ _)
  have K2 : Hid (Blk V1 w.heap.size 26 #[.int .i64 0, .slice none 0 0, .string .empty, .int .i64 0]) := Lib.hid (by rw [← hV1]; exact (K1.out.alloc _))
  have O2 : Hid (Own V1 (w.heap.size + 1) (.slice A1 Q.length c1) Q) := Lib.hid (by rw [← hV1]; exact (O1.out.alloc _))
  have B2 : Hid (Below w.heap.size w V1) := Lib.hid (by rw [← hV1]; exact B1.out.alloc B1.out.size _)
  have y0 : V1.cell? ⟨w1.heap.size, 0, none⟩ = some (.int .i64 K) := X1.out.cell 0
  have y1 : V1.cell? ⟨w1.heap.size, 1, none⟩ = some (.slice A1 Q.length c1) := X1.out.cell 1
  have y2 : V1.cell? ⟨w1.heap.size, 2, none⟩ = some (.string M) := X1.out.cell 2
  have y3 : V1.cell? ⟨w1.heap.size, 3, none⟩ = some (.int .i64 P) := X1.out.cell 3
  have r0 : V1.cell? ⟨w.heap.size, 0, none⟩ = some (.int .i64 0) := K2.out.cell 0
  have r1 : V1.cell? ⟨w.heap.size, 1, none⟩ = some (.slice none 0 0) := K2.out.cell 1
  have r2 : V1.cell? ⟨w.heap.size, 2, none⟩ = some (.string .empty) := K2.out.cell 2
  have r3 : V1.cell? ⟨w.heap.size, 3, none⟩ = some (.int .i64 0) := K2.out.cell 3
  have f0 := K2.out.free 0
  have f1 := K2.out.free 1
  have f2 := K2.out.free 2
  have f3 := K2.out.free 3
  have n1 : w.heap.size ≠ w1.heap.size := by omega
  have n2 : w1.heap.size ≠ w.heap.size := by omega
  rcases HB.out with ⟨rfl, hr⟩ | ⟨rfl, hr, hT⟩
  · obtain ⟨t1, t2⟩ := efT_not hr
    have T1 := Lib.hid t1
    have T2 := Lib.hid t2
    clear t1 t2 hr
    go_wp2_with fail
    refine bodyPost_ret (v := .tuple #[.int .i64 0, .agg #[.int .i64 0, .slice none 0 0, .string .empty, .int .i64 0], .int .i64 0, .bool false]) (by simp [results, Tryd.results16, go_sem, r0, r1, r2, r3]; try rfl) rfl ?_
    exact ⟨_, by rw [T1.out], by rw [T2.out]; exact Own.nil_ _ _, below_st4 B2.out (Nat.le_refl _) _ _ _ _⟩
  · rcases hr with h8 | ⟨h8, hr⟩
    · obtain ⟨_, t1, t2⟩ := hT h8
      have T1 := Lib.hid t1
      have T2 := Lib.hid t2
      have h8' : ¬ 8 < C := by omega
      clear t1 t2 hT h8
      go_wp2_with fail
      go_region
      go_wp2_with fail
      refine bodyPost_ret (v := .tuple #[.int .i64 C, .agg #[.int .i64 K, .slice A1 Q.length c1, .string M, .int .i64 P], .int .i64 N, .bool true]) (by simp [results, Tryd.results16, go_sem, r0, r1, r2, r3]; try rfl) rfl ?_
      exact ⟨_, by rw [T1.out], by rw [T2.out]; exact (O2.out.drew.st4 (Nat.lt_succ_self _)).more (Nat.le_succ _), below_st4 B2.out.drew (Nat.le_refl _) _ _ _ _⟩
    · obtain ⟨t1, t2⟩ := efT_not hr
      have T1 := Lib.hid t1
      have T2 := Lib.hid t2
      clear t1 t2 hr hT
      go_wp2_with fail
      refine bodyPost_ret (v := .tuple #[.int .i64 0, .agg #[.int .i64 0, .slice none 0 0, .string .empty, .int .i64 0], .int .i64 0, .bool false]) (by simp [results, Tryd.results16, go_sem, r0, r1, r2, r3]; try rfl) rfl ?_
      exact ⟨_, by rw [T1.out], by rw [T2.out]; exact Own.nil_ _ _, below_st4 B2.out (Nat.le_refl _) _ _ _ _⟩
end Go.Proofs.YtolbkdcnmkmncaaDoor

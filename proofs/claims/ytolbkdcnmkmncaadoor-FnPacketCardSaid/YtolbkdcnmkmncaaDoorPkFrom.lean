/-
  PacketFrom of the program returns a plain function of the bytes, its quad and its data in memory of the call's own, apart from each other. Conditions: the slice reads as a list of integers.
-/
import Derived.Test.YtolbkdcnmkmncaaDoorRdAd
import Derived.Test.YtolbkdcnmkmncaaDoorPkOk
import Derived.Test.YtolbkdcnmkmncaaDoorLits
namespace Go.Proofs.YtolbkdcnmkmncaaDoor
open Go.RowKit

/-- A struct of six cells is stored, whole. -/
def st6 (w : World) (B : Nat) (x y z u v t : Value) : World := ((st4 w B x y z u).setCell ⟨B, 4, none⟩ v).setCell ⟨B, 5, none⟩ t
theorem Own.st6 {w : World} {base B : Nat} {s x y z u v t : Value} {zs : List Int} (h : Own w base s zs) (hb : B < base) : Own (Go.Proofs.YtolbkdcnmkmncaaDoor.st6 w B x y z u v t) base s zs := ((h.st4 hb).far hb v).far hb t
theorem below_st6 {B0 : Nat} {w W : World} {g : Nat} (h : Below B0 w W) (hg : B0 ≤ g) (x y z u v t : Value) : Below B0 w (st6 W g x y z u v t) := ((below_st4 h hg x y z u).setCell (p := ⟨g, 4, none⟩) hg v).setCell (p := ⟨g, 5, none⟩) hg t

/-! what both sides return -/
def ppF (b : Bool) (zs : List Int) : Int := if b = true then zs.getD 2 0 else 0
def ppK (b : Bool) (zs : List Int) : Int := if b = true then (zs.drop 3).getD 0 0 else 0
def ppQ (b : Bool) (zs : List Int) : List Int := if b = true then aQ (zs.drop 3) else []
def ppM (b : Bool) (zs : List Int) : ByteArray := if b = true then aM (zs.drop 3) else ByteArray.empty
def ppP (b : Bool) (zs : List Int) : Int := if b = true then aP (zs.drop 3) else 0
def ppE (b : Bool) (zs : List Int) : List Int := if b = true then ppD zs else []
def PpT (b : Bool) (zs : List Int) (q d : Value) : Value := .tuple #[.agg #[.int .i64 (ppF b zs), .int .i64 (ppK b zs), q, .string (ppM b zs), .int .i64 (ppP b zs), d], .bool b]
def GavePp (w : World) (b : Bool) (zs : List Int) (e : Ending) (w' : World) : Prop :=
  ∃ q d, e = .returned (PpT b zs q d) ∧ Own w' w.heap.size q (ppQ b zs) ∧ Own w' w.heap.size d (ppE b zs) ∧ (q.ownBlock = none ∨ q.ownBlock ≠ d.ownBlock) ∧ Below w.heap.size w w'
theorem ppT_not {zs : List Int} (h : ppOk zs = false) : (∀ q d, PpT (ppOk zs) zs q d = .tuple #[.agg #[.int .i64 0, .int .i64 0, q, .string .empty, .int .i64 0, d], .bool false]) ∧ ppQ (ppOk zs) zs = [] ∧ ppE (ppOk zs) zs = [] := by
  rw [h]; exact ⟨fun _ _ => rfl, rfl, rfl⟩
theorem ppT_yes {zs : List Int} (h : ppOk zs = true) : (∀ q d, PpT (ppOk zs) zs q d = .tuple #[.agg #[.int .i64 (zs.getD 2 0), .int .i64 ((zs.drop 3).getD 0 0), q, .string (aM (zs.drop 3)), .int .i64 (aP (zs.drop 3)), d], .bool true]) ∧ ppQ (ppOk zs) zs = aQ (zs.drop 3) ∧ ppE (ppOk zs) zs = ppD zs := by
  rw [h]; exact ⟨fun _ _ => rfl, rfl, rfl⟩
theorem pp_pk {zs : List Int} (h : ppIn zs = true) : pkOk (zs.getD 2 0) ((zs.drop 3).getD 0 0) (aQ (zs.drop 3)) (aM (zs.drop 3)) (aP (zs.drop 3)) (ppD zs) = ppOk zs := by
  rw [pp_ok h, ppOk, h]
  rfl
theorem pf_nums {L a n : Nat} (hat : a ≤ L) (h : L ≤ 120) (hn : L - a = n) : IntKind.i64.wrap ((L : Int) - (a : Int)) = (n : Int) ∧ (L : Int) - (a : Int) = (n : Int) ∧ wrap64 (n : Int) = (n : Int) ∧ IntKind.i64.wrap (n : Int) = (n : Int) ∧ a + n ≤ L ∧ n ≤ 1000 := by
  have e : (L : Int) - (a : Int) = (n : Int) := by omega
  refine ⟨?_, e, IntWalk.wrap64_in _ (by omega), IntWalk.i64_in _ (by omega), by omega, by omega⟩
  rw [e]
  exact IntWalk.i64_in _ (by omega)
theorem pm_size {t : List Int} (h : afOk t = true) : (aM t).size < 4294967281 := by
  have := (adOk_sizes (afOk_parts h).2).2
  omega
theorem pp_take {zs : List Int} : (zs.drop (ppAt zs)).take (zs.length - ppAt zs) = ppD zs := by
  rw [List.take_of_length_le (by simp)]
  rfl

set_option maxRecDepth 100000 in
set_option maxHeartbeats 400000 in
theorem impl_PacketFrom_any (v : Value) (zs : List Int) (w : World) (hv : Ints w 0 v zs) : Calls Tryd.prog 40 #[v] w fun e w' => GavePp w (ppOk zs) zs e w' := by
  have HV := Lib.hid hv
  obtain ⟨A0, c0, rfl, hc0, hm0, _⟩ := hv.open_
  obtain ⟨C, hC⟩ : ∃ C, rByte zs (ppS1 zs) = C := ⟨_, rfl⟩
  obtain ⟨K, hK⟩ : ∃ K, raK zs (ppS2 zs) = K := ⟨_, rfl⟩
  obtain ⟨M, hM⟩ : ∃ M, raM zs (ppS2 zs) = M := ⟨_, rfl⟩
  obtain ⟨P, hP⟩ : ∃ P, raP zs (ppS2 zs) = P := ⟨_, rfl⟩
  obtain ⟨Q, hQ⟩ : ∃ Q, raQ zs (ppS2 zs) = Q := ⟨_, rfl⟩
  have EA : Hid (∀ q, Value.agg #[.int .i64 (raK zs (ppS2 zs)), q, .string (raM zs (ppS2 zs)), .int .i64 (raP zs (ppS2 zs))] = .agg #[.int .i64 K, q, .string M, .int .i64 P]) := Lib.hid fun q => by rw [hK, hM, hP]
  have HT : Hid (ppIn zs = true → C = zs.getD 2 0 ∧ K = (zs.drop 3).getD 0 0 ∧ Q = aQ (zs.drop 3) ∧ M = aM (zs.drop 3) ∧ P = aP (zs.drop 3) ∧ ppEnd zs = (ppAt zs, false) ∧ ppAt zs ≤ zs.length ∧ zs.length ≤ 120) := Lib.hid fun h => by
    obtain ⟨e1, e2, e3, e4, e5, e6⟩ := pp_state h
    exact ⟨hC.symm.trans e2, hK.symm.trans e3, hQ.symm.trans e4, hM.symm.trans e5, hP.symm.trans e6, e1, ppAt_le h, validL_len (ppIn_parts h).1⟩
  have EC := Lib.hid hC
  have EQ := Lib.hid hQ
  clear hv hC hK hM hP hQ
  go_enter Tryd.func40, Tryd.ntmps40
  go_wp2_with fail
  refine (newReader_any _ zs _ (HV.out.alloc _)).mono ?_
  rintro e w1 ⟨rfl, r1, b1⟩
  simp only [World.size_alloc] at r1 b1 ⊢
  have K1 := Lib.hid ((Blk.new w 41 #[.int .i64 0, .int .i64 0, .slice none 0 0, .string .empty, .int .i64 0, .slice none 0 0]).below b1 (Nat.lt_succ_self _))
  have R1 := Lib.hid r1
  have B1 : Hid (Below w.heap.size w w1) := Lib.hid (((Below.refl _ _).alloc (Nat.le_refl _) _).trans (b1.mono (Nat.le_succ _)))
  have z1 := r1.lt
  clear r1 b1
  go_wp2_with fail
  refine (expect_any _ _ _ zs [0, 0] _ _ (R1.out.alloc _) (Ints.lit_2 rfl) (by simp)).mono ?_
  rintro e w2 ⟨rfl, t2⟩
  have K2 := Lib.hid ((K1.out.alloc (.cells #[.int .i64 0, .int .i64 0] 3)).grown t2.2 (by intro h; injection h with h; omega))
  have R2 : Hid (Rdr w2 (w.heap.size + 1) _ zs (ppS1 zs)) := Lib.hid t2.1
  have z2 := t2.2.size
  simp at z2
  have B2 := Lib.hid (below_only (B1.out.alloc (by omega) (.cells #[.int .i64 0, .int .i64 0] 3)) t2.2 (by simp; omega) (Nat.le_succ _))
  clear t2 R1 K1
  go_wp2_with fail
  refine (byte_any _ _ zs _ _ R2.out).mono ?_
  rintro e w3 ⟨rfl, t3⟩
  rw [EC.out]
  have K3 := Lib.hid (K2.out.grown t3.2 (by intro h; injection h with h; omega))
  have R3 : Hid (Rdr w3 (w.heap.size + 1) _ zs (ppS2 zs)) := Lib.hid t3.1
  have z3 := t3.2.size
  have B3 := Lib.hid (below_only B2.out t3.2 (by omega) (Nat.le_succ _))
  clear t3 R2 K2
  go_wp2_with fail
  refine (address_any _ _ zs _ _ R3.out).mono ?_
  rintro e w4 ⟨q, rfl, o4, t4⟩
  rw [EA.out]
  rw [EQ.out] at o4
  obtain ⟨A4, c4, rfl, _, _, _⟩ := o4.form
  have z4 := t4.2.size
  obtain ⟨V, hV⟩ : ∃ V, w4.alloc (.cells #[.int .i64 C, .int .i64 K, .slice A4 Q.length c4, .string M, .int .i64 P, .slice none 0 0] 41) = V := ⟨_, rfl⟩
  have K4 : Hid (Blk V w.heap.size 41 #[.int .i64 0, .int .i64 0, .slice none 0 0, .string .empty, .int .i64 0, .slice none 0 0]) := Lib.hid (by rw [← hV]; exact (K3.out.grown t4.2 (by intro h; injection h with h; omega)).alloc _)
  have X4 : Hid (Blk V w4.heap.size 41 #[.int .i64 C, .int .i64 K, .slice A4 Q.length c4, .string M, .int .i64 P, .slice none 0 0]) := Lib.hid (by rw [← hV]; exact Blk.new _ _ _)
  have R4 : Hid (Rdr V (w.heap.size + 1) _ zs (ppEnd zs)) := Lib.hid (by rw [← hV]; exact t4.1.alloc _)
  have O4 : Hid (Own V (w.heap.size + 1) (.slice A4 Q.length c4) Q) := Lib.hid (by rw [← hV]; exact (o4.more (by omega)).alloc _)
  have N4 : Hid (Value.ownBlock (.slice A4 Q.length c4) ≠ some w4.heap.size) := Lib.hid (by
    rcases o4.2 with ⟨h0, _⟩ | ⟨b, cap, cur, he, _, hh, _⟩
    · rw [h0]; simp [Value.ownBlock]
    · rw [he]
      have := (Array.getElem?_eq_some_iff.1 hh).1
      simp [Value.ownBlock]
      omega)
  have B4 : Hid (Below w.heap.size w V) := Lib.hid (by
    rw [← hV]
    have h := below_only B3.out t4.2 (by omega) (Nat.le_succ _)
    exact h.alloc h.size _)
  have zV : V.heap.size = w4.heap.size + 1 := by rw [← hV]; simp
  have d1 := R4.out.c1
  have d2 := R4.out.c2
  have HVV := Lib.hid hV
  clear o4 t4 R3 K3
  cases hin : ppIn zs
  · have hb := pp_bad hin
    rw [hb] at d2
    have hok : ppOk zs = false := by rw [ppOk, hin]; rfl
    obtain ⟨t1, t2, t3⟩ := ppT_not hok
    have T1 := Lib.hid t1
    have T2 := Lib.hid t2
    have T3 := Lib.hid t3
    have r0 : V.cell? ⟨w.heap.size, 0, none⟩ = some (.int .i64 0) := K4.out.cell 0
    have r1 : V.cell? ⟨w.heap.size, 1, none⟩ = some (.int .i64 0) := K4.out.cell 1
    have r2 : V.cell? ⟨w.heap.size, 2, none⟩ = some (.slice none 0 0) := K4.out.cell 2
    have r3 : V.cell? ⟨w.heap.size, 3, none⟩ = some (.string .empty) := K4.out.cell 3
    have r4 : V.cell? ⟨w.heap.size, 4, none⟩ = some (.int .i64 0) := K4.out.cell 4
    have r5 : V.cell? ⟨w.heap.size, 5, none⟩ = some (.slice none 0 0) := K4.out.cell 5
    have f0 := K4.out.free 0
    have f1 := K4.out.free 1
    have f2 := K4.out.free 2
    have f3 := K4.out.free 3
    have f4 := K4.out.free 4
    have f5 := K4.out.free 5
    rw [← hV] at d2 r0 r1 r2 r3 r4 r5 f0 f1 f2 f3 f4 f5
    clear hin hb hok t1 t2 t3 d1 hV
    go_wp2_with fail
    refine bodyPost_ret (v := .tuple #[.agg #[.int .i64 0, .int .i64 0, .slice none 0 0, .string .empty, .int .i64 0, .slice none 0 0], .bool false]) (by simp [results, Tryd.results40, go_sem, r0, r1, r2, r3, r4, r5]; try rfl) rfl ?_
    exact ⟨_, _, by rw [T1.out], by rw [T2.out]; exact Own.nil_ _ _, by rw [T3.out]; exact Own.nil_ _ _, .inl rfl, below_st6 (show Below w.heap.size w (w4.alloc _) by rw [HVV.out]; exact B4.out) (Nat.le_refl _) _ _ _ _ _ _⟩
  · obtain ⟨h1, h2, h3, h4, h5, hE, hat, h120⟩ := HT.out hin
    rw [hE] at d1 d2
    have R4' : Hid (Rdr V (w.heap.size + 1) _ zs (ppAt zs, false)) := Lib.hid (by have h := R4.out; rwa [hE] at h)
    have HPK : Hid (pkOk C K Q M P (ppD zs) = ppOk zs) := Lib.hid (by rw [h1, h2, h3, h4, h5]; exact pp_pk hin)
    have HY : Hid (ppOk zs = true → (∀ q d, PpT (ppOk zs) zs q d = .tuple #[.agg #[.int .i64 C, .int .i64 K, q, .string M, .int .i64 P, d], .bool true]) ∧ ppQ (ppOk zs) zs = Q ∧ ppE (ppOk zs) zs = ppD zs) := Lib.hid fun h => by rw [h1, h2, h3, h4, h5]; exact ppT_yes h
    have HMs : Hid (M.size < 4294967281) := Lib.hid (by rw [h4]; exact pm_size (ppIn_parts hin).2.2.2.2)
    have HTK := Lib.hid (pp_take (zs := zs))
    obtain ⟨a, ha⟩ : ∃ a, ppAt zs = a := ⟨_, rfl⟩
    obtain ⟨n, hn⟩ : ∃ n, zs.length - a = n := ⟨_, rfl⟩
    rw [ha] at d1 R4' hat HTK
    rw [hn] at HTK
    obtain ⟨e1, e2, e3, e4, han, hn1000⟩ := pf_nums hat h120 hn
    simp only at d1 d2
    rw [← hV] at d1 d2
    clear h1 h2 h3 h4 h5 hE ha hn hat h120 hin hV
    go_wp2_with fail
    rw [HVV.out]
    refine (take_any _ _ zs (a, false) n _ R4'.out hn1000).mono ?_
    rintro e w5 ⟨d, rfl, o5, t5⟩
    rw [rGot_good han, HTK.out] at o5
    obtain ⟨D, hD⟩ : ∃ D, ppD zs = D := ⟨_, rfl⟩

    rw [hD] at o5 HPK HY
    obtain ⟨A5, c5, rfl, _, _, _⟩ := o5.form
    have P45 := Lib.hid (O4.out.ahead o5)
    have K5 := Lib.hid (K4.out.grown t5.2 (by intro h; injection h with h; omega))
    have X5 := Lib.hid (X4.out.grown t5.2 (by intro h; injection h with h; omega))
    have O45 := Lib.hid (R4'.out.own O4.out t5.2)
    have O5 := Lib.hid o5
    have B5 := Lib.hid (below_only B4.out t5.2 (by omega) (Nat.le_succ _))
    have z5 := t5.2.size
    have gx := X5.out.free 5
    have cx : w5.cell? ⟨w4.heap.size, 5, none⟩ = some (.slice none 0 0) := X5.out.cell 5
    have x0 : w5.cell? ⟨w4.heap.size, 0, none⟩ = some (.int .i64 C) := X5.out.cell 0
    have x1 : w5.cell? ⟨w4.heap.size, 1, none⟩ = some (.int .i64 K) := X5.out.cell 1
    have x2 : w5.cell? ⟨w4.heap.size, 2, none⟩ = some (.slice A4 Q.length c4) := X5.out.cell 2
    have x3 : w5.cell? ⟨w4.heap.size, 3, none⟩ = some (.string M) := X5.out.cell 3
    have x4 : w5.cell? ⟨w4.heap.size, 4, none⟩ = some (.int .i64 P) := X5.out.cell 4
    clear o5 t5 R4 R4' O4 K4 X4 B4 d1 d2 hD HTK
    go_wp2_with fail
    have X6 : Hid (Blk (w5.setCell ⟨w4.heap.size, 5, none⟩ (.slice A5 D.length c5)) w4.heap.size 41 #[.int .i64 C, .int .i64 K, .slice A4 Q.length c4, .string M, .int .i64 P, .slice A5 D.length c5]) := Lib.hid (X5.out.set_ 5 _)
    have K6 := Lib.hid (K5.out.far (p := ⟨w4.heap.size, 5, none⟩) (show w.heap.size ≠ w4.heap.size by omega) (.slice A5 D.length c5))
    have O46 := Lib.hid (O45.out.farN (B := w4.heap.size) (i := 5) N4.out (.slice A5 D.length c5))
    have O6 := Lib.hid (O5.out.far (B := w4.heap.size) (i := 5) (by omega) (.slice A5 D.length c5))
    have B6 := Lib.hid (B5.out.setCell (p := ⟨w4.heap.size, 5, none⟩) (show w.heap.size ≤ w4.heap.size by omega) (.slice A5 D.length c5))
    refine (isPacket_any C K _ M P Q _ D _ O46.out.ints.zero O6.out.ints.zero HMs.out).mono ?_
    rintro e w7 ⟨rfl, b7⟩
    rw [HPK.out]
    have X7 := Lib.hid (X6.out.kept b7)
    have K7 := Lib.hid (K6.out.kept b7)
    have O47 := Lib.hid (O46.out.below b7)
    have O7 := Lib.hid (O6.out.below b7)
    have B7 := Lib.hid (B6.out.trans (b7.mono B6.out.size))
    clear b7 X6 K6 O46 O6 B6 X5 K5 O45 O5 B5 x0 x1 x2 x3 x4 cx gx
    have r0 : w7.cell? ⟨w.heap.size, 0, none⟩ = some (.int .i64 0) := K7.out.cell 0
    have r1 : w7.cell? ⟨w.heap.size, 1, none⟩ = some (.int .i64 0) := K7.out.cell 1
    have r2 : w7.cell? ⟨w.heap.size, 2, none⟩ = some (.slice none 0 0) := K7.out.cell 2
    have r3 : w7.cell? ⟨w.heap.size, 3, none⟩ = some (.string .empty) := K7.out.cell 3
    have r4 : w7.cell? ⟨w.heap.size, 4, none⟩ = some (.int .i64 0) := K7.out.cell 4
    have r5 : w7.cell? ⟨w.heap.size, 5, none⟩ = some (.slice none 0 0) := K7.out.cell 5
    have f0 := K7.out.free 0
    have f1 := K7.out.free 1
    have f2 := K7.out.free 2
    have f3 := K7.out.free 3
    have f4 := K7.out.free 4
    have f5 := K7.out.free 5
    have x0 : w7.cell? ⟨w4.heap.size, 0, none⟩ = some (.int .i64 C) := X7.out.cell 0
    have x1 : w7.cell? ⟨w4.heap.size, 1, none⟩ = some (.int .i64 K) := X7.out.cell 1
    have x2 : w7.cell? ⟨w4.heap.size, 2, none⟩ = some (.slice A4 Q.length c4) := X7.out.cell 2
    have x3 : w7.cell? ⟨w4.heap.size, 3, none⟩ = some (.string M) := X7.out.cell 3
    have x4 : w7.cell? ⟨w4.heap.size, 4, none⟩ = some (.int .i64 P) := X7.out.cell 4
    have x5 : w7.cell? ⟨w4.heap.size, 5, none⟩ = some (.slice A5 D.length c5) := X7.out.cell 5
    have n1 : w.heap.size ≠ w4.heap.size := by omega
    have n2 : w4.heap.size ≠ w.heap.size := by omega
    cases hok : ppOk zs
    · obtain ⟨t1, t2, t3⟩ := ppT_not hok
      have T1 := Lib.hid t1
      have T2 := Lib.hid t2
      have T3 := Lib.hid t3
      clear t1 t2 t3 hok
      go_wp2_with fail
      refine bodyPost_ret (v := .tuple #[.agg #[.int .i64 0, .int .i64 0, .slice none 0 0, .string .empty, .int .i64 0, .slice none 0 0], .bool false]) (by simp [results, Tryd.results40, go_sem, r0, r1, r2, r3, r4, r5]; try rfl) rfl ?_
      exact ⟨_, _, by rw [T1.out], by rw [T2.out]; exact Own.nil_ _ _, by rw [T3.out]; exact Own.nil_ _ _, .inl rfl, below_st6 B7.out (Nat.le_refl _) _ _ _ _ _ _⟩
    · obtain ⟨t1, t2, t3⟩ := HY.out hok
      have T1 := Lib.hid t1
      have T2 := Lib.hid t2
      have T3 := Lib.hid t3
      clear t1 t2 t3 hok
      go_wp2_with fail
      refine bodyPost_ret (v := .tuple #[.agg #[.int .i64 C, .int .i64 K, .slice A4 Q.length c4, .string M, .int .i64 P, .slice A5 D.length c5], .bool true]) (by simp [results, Tryd.results40, go_sem, r0, r1, r2, r3, r4, r5]; try rfl) rfl ?_
      exact ⟨_, _, by rw [T1.out], by rw [T2.out]; exact (O47.out.st6 (by omega)).more (by omega), by rw [T3.out]; exact (O7.out.st6 (by omega)).more (by omega), P45.out, below_st6 B7.out (Nat.le_refl _) _ _ _ _ _ _⟩
end Go.Proofs.YtolbkdcnmkmncaaDoor

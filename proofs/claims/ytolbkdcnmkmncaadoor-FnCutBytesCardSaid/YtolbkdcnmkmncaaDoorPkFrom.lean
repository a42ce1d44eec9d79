/-
  PacketFrom of the program returns a plain function of the bytes, its quad and its data in memory of the call's own, apart from each other. Conditions: the slice reads as a list of integers.
  The reference's PacketFrom where it ends ahead of the address. Conditions: the slice reads as a list of integers.
  The reference's PacketFrom returns the same plain function of the bytes as the program's. Conditions: the slice reads as a list of integers.
  The program's PacketFrom at the bytes of a packet. Conditions: the slice reads as those bytes.
-/
import Derived.Test.YtolbkdcnmkmncaaDoorRdAd
import Derived.Test.YtolbkdcnmkmncaaDoorPkOk
import Derived.Test.YtolbkdcnmkmncaaDoorLits
import Derived.Test.YtolbkdcnmkmncaaDoorRf2
import Derived.Deep.CutRange
import Derived.Test.YtolbkdcnmkmncaaDoorPkBytes
namespace Go.Proofs.YtolbkdcnmkmncaaDoor
open Go.RowKit

/-- A struct of six cells is stored, whole. -/
def st6 (w : World) (B : Nat) (x y z u v t : Value) : World := ((st4 w B x y z u).setCell ⟨B, 4, none⟩ v).setCell ⟨B, 5, none⟩ t
theorem Own.st6 {w : World} {base B : Nat} {s x y z u v t : Value} {zs : List Int} (h : Own w base s zs) (hb : B < base) : Own (Go.Proofs.YtolbkdcnmkmncaaDoor.st6 w B x y z u v t) base s zs := ((h.st4 hb).far hb v).far hb t
theorem below_st6 {B0 : Nat} {w W : World} {g : Nat} (h : Below B0 w W) (hg : B0 ≤ g) (x y z u v t : Value) : Below B0 w (st6 W g x y z u v t) := ((below_st4 h hg x y z u).setCell (p := ⟨g, 4, none⟩) hg v).setCell (p := ⟨g, 5, none⟩) hg t

/-! what both sides return -/
def ppF (b : Bool) (zs : List Int) : Int := if b = true then zs.getD 2 0 else 0
def ppK (b : Bool) (zs : List Int) : Int := if b = true then (zs.drop 3).getD 0 0 else 0
def ppQ (b : Bool) (zs : List Int) : List Int := if b = true then aQ (zs.drop 3) else []
def ppM (b : Bool) (zs : List Int) : ByteArray := if b = true then aM (zs.drop 3) else ByteArray.empty
def ppP (b : Bool) (zs : List Int) : Int := if b = true then aP (zs.drop 3) else 0
def ppE (b : Bool) (zs : List Int) : List Int := if b = true then ppD zs else []
def PpT (b : Bool) (zs : List Int) (q d : Value) : Value := .tuple #[.agg #[.int .i64 (ppF b zs), .int .i64 (ppK b zs), q, .string (ppM b zs), .int .i64 (ppP b zs), d], .bool b]
def GavePp (w : World) (b : Bool) (zs : List Int) (e : Ending) (w' : World) : Prop :=
  ∃ q d, e = .returned (PpT b zs q d) ∧ Own w' w.heap.size q (ppQ b zs) ∧ Own w' w.heap.size d (ppE b zs) ∧ (q.ownBlock = none ∨ q.ownBlock ≠ d.ownBlock) ∧ Below w.heap.size w w'
theorem ppT_not {zs : List Int} (h : ppOk zs = false) : (∀ q d, PpT (ppOk zs) zs q d = .tuple #[.agg #[.int .i64 0, .int .i64 0, q, .string .empty, .int .i64 0, d], .bool false]) ∧ ppQ (ppOk zs) zs = [] ∧ ppE (ppOk zs) zs = [] := by
  rw [h]; exact ⟨fun _ _ => rfl, rfl, rfl⟩
theorem ppT_yes {zs : List Int} (h : ppOk zs = true) : (∀ q d, PpT (ppOk zs) zs q d = .tuple #[.agg #[.int .i64 (zs.getD 2 0), .int .i64 ((zs.drop 3).getD 0 0), q, .string (aM (zs.drop 3)), .int .i64 (aP (zs.drop 3)), d], .bool true]) ∧ ppQ (ppOk zs) zs = aQ (zs.drop 3) ∧ ppE (ppOk zs) zs = ppD zs := by
  rw [h]; exact ⟨fun _ _ => rfl, rfl, rfl⟩
theorem pp_pk {zs : List Int} (h : ppIn zs = true) : pkOk (zs.getD 2 0) ((zs.drop 3).getD 0 0) (aQ (zs.drop 3)) (aM (zs.drop 3)) (aP (zs.drop 3)) (ppD zs) = ppOk zs := by
  rw [pp_ok h, ppOk, h]
  rfl
theorem pf_nums {L a n : Nat} (hat : a ≤ L) (h : L ≤ 120) (hn : L - a = n) : IntKind.i64.wrap ((L : Int) - (a : Int)) = (n : Int) ∧ (L : Int) - (a : Int) = (n : Int) ∧ wrap64 (n : Int) = (n : Int) ∧ IntKind.i64.wrap (n : Int) = (n : Int) ∧ a + n ≤ L ∧ n ≤ 1000 := by
  have e : (L : Int) - (a : Int) = (n : Int) := by omega
  refine ⟨?_, e, IntWalk.wrap64_in _ (by omega), IntWalk.i64_in _ (by omega), by omega, by omega⟩
  rw [e]
  exact IntWalk.i64_in _ (by omega)
theorem pm_size {t : List Int} (h : afOk t = true) : (aM t).size < 4294967281 := by
  have := (adOk_sizes (afOk_parts h).2).2
  omega
theorem pp_take {zs : List Int} : (zs.drop (ppAt zs)).take (zs.length - ppAt zs) = ppD zs := by
  rw [List.take_of_length_le (by simp)]
  rfl

set_option maxRecDepth 100000 in
set_option maxHeartbeats 400000 in
theorem impl_PacketFrom_any (v : Value) (zs : List Int) (w : World) (hv : Ints w 0 v zs) : Calls Tryd.prog 40 #[v] w fun e w' => GavePp w (ppOk zs) zs e w' := by
  have HV := Lib.hid hv
  obtain ⟨A0, c0, rfl, hc0, hm0, _⟩ := hv.open_
  obtain ⟨C, hC⟩ : ∃ C, rByte zs (ppS1 zs) = C := ⟨_, rfl⟩
  obtain ⟨K, hK⟩ : ∃ K, raK zs (ppS2 zs) = K := ⟨_, rfl⟩
  obtain ⟨M, hM⟩ : ∃ M, raM zs (ppS2 zs) = M := ⟨_, rfl⟩
  obtain ⟨P, hP⟩ : ∃ P, raP zs (ppS2 zs) = P := ⟨_, rfl⟩
  obtain ⟨Q, hQ⟩ : ∃ Q, raQ zs (ppS2 zs) = Q := ⟨_, rfl⟩
  have EA : Hid (∀ q, Value.agg #[.int .i64 (raK zs (ppS2 zs)), q, .string (raM zs (ppS2 zs)), .int .i64 (raP zs (ppS2 zs))] = .agg #[.int .i64 K, q, .string M, .int .i64 P]) := Lib.hid fun q => by rw [hK, hM, hP]
  have HT : Hid (ppIn zs = true → C = zs.getD 2 0 ∧ K = (zs.drop 3).getD 0 0 ∧ Q = aQ (zs.drop 3) ∧ M = aM (zs.drop 3) ∧ P = aP (zs.drop 3) ∧ ppEnd zs = (ppAt zs, false) ∧ ppAt zs ≤ zs.length ∧ zs.length ≤ 120) := Lib.hid fun h => by
    obtain ⟨e1, e2, e3, e4, e5, e6⟩ := pp_state h
    exact ⟨hC.symm.trans e2, hK.symm.trans e3, hQ.symm.trans e4, hM.symm.trans e5, hP.symm.trans e6, e1, ppAt_le h, validL_len (ppIn_parts h).1⟩
  have EC := Lib.hid hC
  have EQ := Lib.hid hQ
  clear hv hC hK hM hP hQ
  go_enter Tryd.func40, Tryd.ntmps40
  go_wp2_with fail
  refine (newReader_any _ zs _ (HV.out.alloc _)).mono ?_
  rintro e w1 ⟨rfl, r1, b1⟩
  simp only [World.size_alloc] at r1 b1 ⊢
  have K1 := Lib.hid ((Blk.new w 41 #[.int .i64 0, .int .i64 0, .slice none 0 0, .string .empty, .int .i64 0, .slice none 0 0]).below b1 (Nat.lt_succ_self _))
  have R1 := Lib.hid r1
  have B1 : Hid (Below w.heap.size w w1) := Lib.hid (((Below.refl _ _).alloc (Nat.le_refl _) _).trans (b1.mono (Nat.le_succ _)))
  have z1 := r1.lt
  clear r1 b1
  go_wp2_with fail
  refine (expect_any _ _ _ zs [0, 0] _ _ (R1.out.alloc _) (Ints.lit_2 rfl) (by simp)).mono ?_
  rintro e w2 ⟨rfl, t2⟩
  have K2 := Lib.hid ((K1.out.alloc (.cells #[.int .i64 0, .int .i64 0] 3)).grown t2.2 (by intro h; injection h with h; omega))
  have R2 : Hid (Rdr w2 (w.heap.size + 1) _ zs (ppS1 zs)) := Lib.hid t2.1
  have z2 := t2.2.size
  simp at z2
  have B2 := Lib.hid (below_only (B1.out.alloc (by omega) (.cells #[.int .i64 0, .int .i64 0] 3)) t2.2 (by simp; omega) (Nat.le_succ _))
  clear t2 R1 K1
  go_wp2_with fail
  refine (byte_any _ _ zs _ _ R2.out).mono ?_
  rintro e w3 ⟨rfl, t3⟩
  rw [EC.out]
  have K3 := Lib.hid (K2.out.grown t3.2 (by intro h; injection h with h; omega))
  have R3 : Hid (Rdr w3 (w.heap.size + 1) _ zs (ppS2 zs)) := Lib.hid t3.1
  have z3 := t3.2.size
  have B3 := Lib.hid (below_only B2.out t3.2 (by omega) (Nat.le_succ _))
  clear t3 R2 K2
  go_wp2_with fail
  refine (address_any _ _ zs _ _ R3.out).mono ?_
  rintro e w4 ⟨q, rfl, o4, t4⟩
  rw [EA.out]
  rw [EQ.out] at o4
  obtain ⟨A4, c4, rfl, _, _, _⟩ := o4.form
  have z4 := t4.2.size
  obtain ⟨V, hV⟩ : ∃ V, w4.alloc (.cells #[.int .i64 C, .int .i64 K, .slice A4 Q.length c4, .string M, .int .i64 P, .slice none 0 0] 41) = V := ⟨_, rfl⟩
  have K4 : Hid (Blk V w.heap.size 41 #[.int .i64 0, .int .i64 0, .slice none 0 0, .string .empty, .int .i64 0, .slice none 0 0]) := Lib.hid (by rw [← hV]; exact (K3.out.grown t4.2 (by intro h; injection h with h; omega)).alloc _)
  have X4 : Hid (Blk V w4.heap.size 41 #[.int .i64 C, .int .i64 K, .slice A4 Q.length c4, .string M, .int .i64 P, .slice none 0 0]) := Lib.hid (by rw [← hV]; exact Blk.new _ _ _)
  have R4 : Hid (Rdr V (w.heap.size + 1) _ zs (ppEnd zs)) := Lib.hid (by rw [← hV]; exact t4.1.alloc _)
  have O4 : Hid (Own V (w.heap.size + 1) (.slice A4 Q.length c4) Q) := Lib.hid (by rw [← hV]; exact (o4.more (by omega)).alloc _)
  have N4 : Hid (Value.ownBlock (.slice A4 Q.length c4) ≠ some w4.heap.size) := Lib.hid (by
    rcases o4.2 with ⟨h0, _⟩ | ⟨b, cap, cur, he, _, hh, _⟩
    · rw [h0]; simp [Value.ownBlock]
    · rw [he]
      have := (Array.getElem?_eq_some_iff.1 hh).1
      simp [Value.ownBlock]
      omega)
  have B4 : Hid (Below w.heap.size w V) := Lib.hid (by
    rw [← hV]
    have h := below_only B3.out t4.2 (by omega) (Nat.le_succ _)
    exact h.alloc h.size _)
  have zV : V.heap.size = w4.heap.size + 1 := by rw [← hV]; simp
  have d1 := R4.out.c1
  have d2 := R4.out.c2
  have HVV := Lib.hid hV
  clear o4 t4 R3 K3
  cases hin : ppIn zs
  · have hb := pp_bad hin
    rw [hb] at d2
    have hok : ppOk zs = false := by rw [ppOk, hin]; rfl
    obtain ⟨t1, t2, t3⟩ := ppT_not hok
    have T1 := Lib.hid t1
    have T2 := Lib.hid t2
    have T3 := Lib.hid t3
    have r0 : V.cell? ⟨w.heap.size, 0, none⟩ = some (.int .i64 0) := K4.out.cell 0
    have r1 : V.cell? ⟨w.heap.size, 1, none⟩ = some (.int .i64 0) := K4.out.cell 1
    have r2 : V.cell? ⟨w.heap.size, 2, none⟩ = some (.slice none 0 0) := K4.out.cell 2
    have r3 : V.cell? ⟨w.heap.size, 3, none⟩ = some (.string .empty) := K4.out.cell 3
    have r4 : V.cell? ⟨w.heap.size, 4, none⟩ = some (.int .i64 0) := K4.out.cell 4
    have r5 : V.cell? ⟨w.heap.size, 5, none⟩ = some (.slice none 0 0) := K4.out.cell 5
    have f0 := K4.out.free 0
    have f1 := K4.out.free 1
    have f2 := K4.out.free 2
    have f3 := K4.out.free 3
    have f4 := K4.out.free 4
    have f5 := K4.out.free 5
    rw [← hV] at d2 r0 r1 r2 r3 r4 r5 f0 f1 f2 f3 f4 f5
    clear hin hb hok t1 t2 t3 d1 hV
    go_wp2_with fail
    refine bodyPost_ret (v := .tuple #[.agg #[.int .i64 0, .int .i64 0, .slice none 0 0, .string .empty, .int .i64 0, .slice none 0 0], .bool false]) (by simp [results, Tryd.results40, go_sem, r0, r1, r2, r3, r4, r5]; try rfl) rfl ?_
    exact ⟨_, _, by rw [T1.out], by rw [T2.out]; exact Own.nil_ _ _, by rw [T3.out]; exact Own.nil_ _ _, .inl rfl, below_st6 (show Below w.heap.size w (w4.alloc _) by rw [HVV.out]; exact B4.out) (Nat.le_refl _) _ _ _ _ _ _⟩
  · obtain ⟨h1, h2, h3, h4, h5, hE, hat, h120⟩ := HT.out hin
    rw [hE] at d1 d2
    have R4' : Hid (Rdr V (w.heap.size + 1) _ zs (ppAt zs, false)) := Lib.hid (by have h := R4.out; rwa [hE] at h)
    have HPK : Hid (pkOk C K Q M P (ppD zs) = ppOk zs) := Lib.hid (by rw [h1, h2, h3, h4, h5]; exact pp_pk hin)
    have HY : Hid (ppOk zs = true → (∀ q d, PpT (ppOk zs) zs q d = .tuple #[.agg #[.int .i64 C, .int .i64 K, q, .string M, .int .i64 P, d], .bool true]) ∧ ppQ (ppOk zs) zs = Q ∧ ppE (ppOk zs) zs = ppD zs) := Lib.hid fun h => by rw [h1, h2, h3, h4, h5]; exact ppT_yes h
    have HMs : Hid (M.size < 4294967281) := Lib.hid (by rw [h4]; exact pm_size (ppIn_parts hin).2.2.2.2)
    have HTK := Lib.hid (pp_take (zs := zs))
    obtain ⟨a, ha⟩ : ∃ a, ppAt zs = a := ⟨_, rfl⟩
    obtain ⟨n, hn⟩ : ∃ n, zs.length - a = n := ⟨_, rfl⟩
    rw [ha] at d1 R4' hat HTK
    rw [hn] at HTK
    obtain ⟨e1, e2, e3, e4, han, hn1000⟩ := pf_nums hat h120 hn
    simp only at d1 d2
    rw [← hV] at d1 d2
    clear h1 h2 h3 h4 h5 hE ha hn hat h120 hin hV
    go_wp2_with fail
    rw [HVV.out]
    refine (take_any _ _ zs (a, false) n _ R4'.out hn1000).mono ?_
    rintro e w5 ⟨d, rfl, o5, t5⟩
    rw [rGot_good han, HTK.out] at o5
    obtain ⟨D, hD⟩ : ∃ D, ppD zs = D := ⟨_, rfl⟩

    rw [hD] at o5 HPK HY
    obtain ⟨A5, c5, rfl, _, _, _⟩ := o5.form
    have P45 := Lib.hid (O4.out.ahead o5)
    have K5 := Lib.hid (K4.out.grown t5.2 (by intro h; injection h with h; omega))
    have X5 := Lib.hid (X4.out.grown t5.2 (by intro h; injection h with h; omega))
    have O45 := Lib.hid (R4'.out.own O4.out t5.2)
    have O5 := Lib.hid o5
    have B5 := Lib.hid (below_only B4.out t5.2 (by omega) (Nat.le_succ _))
    have z5 := t5.2.size
    have gx := X5.out.free 5
    have cx : w5.cell? ⟨w4.heap.size, 5, none⟩ = some (.slice none 0 0) := X5.out.cell 5
    have x0 : w5.cell? ⟨w4.heap.size, 0, none⟩ = some (.int .i64 C) := X5.out.cell 0
    have x1 : w5.cell? ⟨w4.heap.size, 1, none⟩ = some (.int .i64 K) := X5.out.cell 1
    have x2 : w5.cell? ⟨w4.heap.size, 2, none⟩ = some (.slice A4 Q.length c4) := X5.out.cell 2
    have x3 : w5.cell? ⟨w4.heap.size, 3, none⟩ = some (.string M) := X5.out.cell 3
    have x4 : w5.cell? ⟨w4.heap.size, 4, none⟩ = some (.int .i64 P) := X5.out.cell 4
    clear o5 t5 R4 R4' O4 K4 X4 B4 d1 d2 hD HTK
    go_wp2_with fail
    have X6 : Hid (Blk (w5.setCell ⟨w4.heap.size, 5, none⟩ (.slice A5 D.length c5)) w4.heap.size 41 #[.int .i64 C, .int .i64 K, .slice A4 Q.length c4, .string M, .int .i64 P, .slice A5 D.length c5]) := Lib.hid (X5.out.set_ 5 _)
    have K6 := Lib.hid (K5.out.far (p := ⟨w4.heap.size, 5, none⟩) (show w.heap.size ≠ w4.heap.size by omega) (.slice A5 D.length c5))
    have O46 := Lib.hid (O45.out.farN (B := w4.heap.size) (i := 5) N4.out (.slice A5 D.length c5))
    have O6 := Lib.hid (O5.out.far (B := w4.heap.size) (i := 5) (by omega) (.slice A5 D.length c5))
    have B6 := Lib.hid (B5.out.setCell (p := ⟨w4.heap.size, 5, none⟩) (show w.heap.size ≤ w4.heap.size by omega) (.slice A5 D.length c5))
    refine (isPacket_any C K _ M P Q _ D _ O46.out.ints.zero O6.out.ints.zero HMs.out).mono ?_
    rintro e w7 ⟨rfl, b7⟩
    rw [HPK.out]
    have X7 := Lib.hid (X6.out.kept b7)
    have K7 := Lib.hid (K6.out.kept b7)
    have O47 := Lib.hid (O46.out.below b7)
    have O7 := Lib.hid (O6.out.below b7)
    have B7 := Lib.hid (B6.out.trans (b7.mono B6.out.size))
    clear b7 X6 K6 O46 O6 B6 X5 K5 O45 O5 B5 x0 x1 x2 x3 x4 cx gx
    have r0 : w7.cell? ⟨w.heap.size, 0, none⟩ = some (.int .i64 0) := K7.out.cell 0
    have r1 : w7.cell? ⟨w.heap.size, 1, none⟩ = some (.int .i64 0) := K7.out.cell 1
    have r2 : w7.cell? ⟨w.heap.size, 2, none⟩ = some (.slice none 0 0) := K7.out.cell 2
    have r3 : w7.cell? ⟨w.heap.size, 3, none⟩ = some (.string .empty) := K7.out.cell 3
    have r4 : w7.cell? ⟨w.heap.size, 4, none⟩ = some (.int .i64 0) := K7.out.cell 4
    have r5 : w7.cell? ⟨w.heap.size, 5, none⟩ = some (.slice none 0 0) := K7.out.cell 5
    have f0 := K7.out.free 0
    have f1 := K7.out.free 1
    have f2 := K7.out.free 2
    have f3 := K7.out.free 3
    have f4 := K7.out.free 4
    have f5 := K7.out.free 5
    have x0 : w7.cell? ⟨w4.heap.size, 0, none⟩ = some (.int .i64 C) := X7.out.cell 0
    have x1 : w7.cell? ⟨w4.heap.size, 1, none⟩ = some (.int .i64 K) := X7.out.cell 1
    have x2 : w7.cell? ⟨w4.heap.size, 2, none⟩ = some (.slice A4 Q.length c4) := X7.out.cell 2
    have x3 : w7.cell? ⟨w4.heap.size, 3, none⟩ = some (.string M) := X7.out.cell 3
    have x4 : w7.cell? ⟨w4.heap.size, 4, none⟩ = some (.int .i64 P) := X7.out.cell 4
    have x5 : w7.cell? ⟨w4.heap.size, 5, none⟩ = some (.slice A5 D.length c5) := X7.out.cell 5
    have n1 : w.heap.size ≠ w4.heap.size := by omega
    have n2 : w4.heap.size ≠ w.heap.size := by omega
    cases hok : ppOk zs
    · obtain ⟨t1, t2, t3⟩ := ppT_not hok
      have T1 := Lib.hid t1
      have T2 := Lib.hid t2
      have T3 := Lib.hid t3
      clear t1 t2 t3 hok
      go_wp2_with fail
      refine bodyPost_ret (v := .tuple #[.agg #[.int .i64 0, .int .i64 0, .slice none 0 0, .string .empty, .int .i64 0, .slice none 0 0], .bool false]) (by simp [results, Tryd.results40, go_sem, r0, r1, r2, r3, r4, r5]; try rfl) rfl ?_
      exact ⟨_, _, by rw [T1.out], by rw [T2.out]; exact Own.nil_ _ _, by rw [T3.out]; exact Own.nil_ _ _, .inl rfl, below_st6 B7.out (Nat.le_refl _) _ _ _ _ _ _⟩
    · obtain ⟨t1, t2, t3⟩ := HY.out hok
      have T1 := Lib.hid t1
      have T2 := Lib.hid t2
      have T3 := Lib.hid t3
      clear t1 t2 t3 hok
      go_wp2_with fail
      refine bodyPost_ret (v := .tuple #[.agg #[.int .i64 C, .int .i64 K, .slice A4 Q.length c4, .string M, .int .i64 P, .slice A5 D.length c5], .bool true]) (by simp [results, Tryd.results40, go_sem, r0, r1, r2, r3, r4, r5]; try rfl) rfl ?_
      exact ⟨_, _, by rw [T1.out], by rw [T2.out]; exact (O47.out.st6 (by omega)).more (by omega), by rw [T3.out]; exact (O7.out.st6 (by omega)).more (by omega), P45.out, below_st6 B7.out (Nat.le_refl _) _ _ _ _ _ _⟩
end Go.Proofs.YtolbkdcnmkmncaaDoor
namespace Go.Proofs.YtolbkdcnmkmncaaDoor
open Go.RowKit

set_option maxRecDepth 100000 in
set_option maxHeartbeats 2000000 in
/-- The ways that end ahead of the address. -/
theorem spec_PacketFrom_not (v : Value) (zs : List Int) (w : World) (hv : Ints w 0 v zs) (h : validL zs = false ∨ zs.length < 3 ∨ 3 ≤ zs.length ∧ (zs.getD 0 0 ≠ 0 ∨ zs.getD 0 0 = 0 ∧ zs.getD 1 0 ≠ 0)) (hE : ppOk zs = false) :
    Calls Tryd.prog 38 #[v] w fun e w' => GavePp w (ppOk zs) zs e w' := by
  have HV := Lib.hid hv
  obtain ⟨t1, t2, t3⟩ := ppT_not hE
  have T1 := Lib.hid t1
  have T2 := Lib.hid t2
  have T3 := Lib.hid t3
  obtain ⟨A, c, rfl, hc, hm, hA⟩ := hv.open_
  obtain ⟨V, hV⟩ : ∃ V, w.alloc (.cells #[.int .i64 0, .int .i64 0, .slice none 0 0, .string ⟨#[]⟩, .int .i64 0, .slice none 0 0] 41) = V := ⟨_, rfl⟩
  have K : Hid (Blk V w.heap.size 41 #[.int .i64 0, .int .i64 0, .slice none 0 0, .string .empty, .int .i64 0, .slice none 0 0]) := Lib.hid (by rw [← hV]; exact Blk.new _ _ _)
  have B : Hid (Below w.heap.size w V) := Lib.hid (by rw [← hV]; exact (Below.refl _ _).alloc (Nat.le_refl _) _)
  have I : Hid (Ints V 0 (.slice A zs.length c) zs) := Lib.hid (by rw [← hV]; exact HV.out.alloc _)
  have r0 : V.cell? ⟨w.heap.size, 0, none⟩ = some (.int .i64 0) := K.out.cell 0
  have r1 : V.cell? ⟨w.heap.size, 1, none⟩ = some (.int .i64 0) := K.out.cell 1
  have r2 : V.cell? ⟨w.heap.size, 2, none⟩ = some (.slice none 0 0) := K.out.cell 2
  have r3 : V.cell? ⟨w.heap.size, 3, none⟩ = some (.string .empty) := K.out.cell 3
  have r4 : V.cell? ⟨w.heap.size, 4, none⟩ = some (.int .i64 0) := K.out.cell 4
  have r5 : V.cell? ⟨w.heap.size, 5, none⟩ = some (.slice none 0 0) := K.out.cell 5
  have f0 := K.out.free 0
  have f1 := K.out.free 1
  have f2 := K.out.free 2
  have f3 := K.out.free 3
  have f4 := K.out.free 4
  have f5 := K.out.free 5
  clear hv hE t1 t2 t3
  cases hvl : validL zs
  · clear h hA
    go_enter Tryd.func38, Tryd.ntmps38
    go_wp2_with (go_at_call 75; refine (spec_BytesValid_any _ zs _ I.out).mono ?_; rintro e w' ⟨rfl, rfl⟩; rw [hvl])
    refine bodyPost_ret (v := .tuple #[.agg #[.int .i64 0, .int .i64 0, .slice none 0 0, .string .empty, .int .i64 0, .slice none 0 0], .bool false]) (by simp [results, Tryd.results38, go_sem, r0, r1, r2, r3, r4, r5]; try rfl) rfl ?_
    exact ⟨_, _, by rw [T1.out], by rw [T2.out]; exact Own.nil_ _ _, by rw [T3.out]; exact Own.nil_ _ _, .inl rfl, below_st6 B.out (Nat.le_refl _) _ _ _ _ _ _⟩
  · rcases h with h | h | ⟨h, h'⟩
    · rw [hvl] at h; cases h
    · have h' : (zs.length : Int) < 3 := by omega
      clear h hA
      go_enter Tryd.func38, Tryd.ntmps38
      go_wp2_with (go_at_call 75; refine (spec_BytesValid_any _ zs _ I.out).mono ?_; rintro e w' ⟨rfl, rfl⟩; rw [hvl])
      refine bodyPost_ret (v := .tuple #[.agg #[.int .i64 0, .int .i64 0, .slice none 0 0, .string .empty, .int .i64 0, .slice none 0 0], .bool false]) (by simp [results, Tryd.results38, go_sem, r0, r1, r2, r3, r4, r5]; try rfl) rfl ?_
      exact ⟨_, _, by rw [T1.out], by rw [T2.out]; exact Own.nil_ _ _, by rw [T3.out]; exact Own.nil_ _ _, .inl rfl, below_st6 B.out (Nat.le_refl _) _ _ _ _ _ _⟩
    · obtain ⟨b, o, rfl, _, hb, hs⟩ := hA.resolve_left (fun h0 => by rw [h0] at h; simp at h)
      have hsV : Seg V 3 b o (iv zs) := by rw [← hV]; exact hs.alloc _
      have c0 := hsV.int_at (j := 0) (by omega)
      have c1 := hsV.int_at (j := 1) (by omega)
      rw [Nat.add_zero] at c0
      have h3 : ¬ (zs.length : Int) < 3 := by omega
      have hp0 : (0 : Int) < (zs.length : Int) := by omega
      have hp1 : (1 : Int) < (zs.length : Int) := by omega
      obtain ⟨x, hx⟩ : ∃ x, zs.getD 0 0 = x := ⟨_, rfl⟩
      obtain ⟨y, hy⟩ : ∃ y, zs.getD 1 0 = y := ⟨_, rfl⟩
      rw [hx] at c0 h'
      rw [hy] at c1 h'
      rcases h' with h5 | ⟨rfl, h0⟩
      · have h5' : (x != 0) = true := by simpa using h5
        clear h hs hsV hx hy h5 hA
        go_enter Tryd.func38, Tryd.ntmps38
        go_wp2_with (go_at_call 75; refine (spec_BytesValid_any _ zs _ I.out).mono ?_; rintro e w' ⟨rfl, rfl⟩; rw [hvl])
        refine bodyPost_ret (v := .tuple #[.agg #[.int .i64 0, .int .i64 0, .slice none 0 0, .string .empty, .int .i64 0, .slice none 0 0], .bool false]) (by simp [results, Tryd.results38, go_sem, r0, r1, r2, r3, r4, r5]; try rfl) rfl ?_
        exact ⟨_, _, by rw [T1.out], by rw [T2.out]; exact Own.nil_ _ _, by rw [T3.out]; exact Own.nil_ _ _, .inl rfl, below_st6 B.out (Nat.le_refl _) _ _ _ _ _ _⟩
      · have h0' : (y != 0) = true := by simpa using h0
        clear h hs hsV hx hy h0 hA
        go_enter Tryd.func38, Tryd.ntmps38
        go_wp2_with (go_at_call 75; refine (spec_BytesValid_any _ zs _ I.out).mono ?_; rintro e w' ⟨rfl, rfl⟩; rw [hvl])
        refine bodyPost_ret (v := .tuple #[.agg #[.int .i64 0, .int .i64 0, .slice none 0 0, .string .empty, .int .i64 0, .slice none 0 0], .bool false]) (by simp [results, Tryd.results38, go_sem, r0, r1, r2, r3, r4, r5]; try rfl) rfl ?_
        exact ⟨_, _, by rw [T1.out], by rw [T2.out]; exact Own.nil_ _ _, by rw [T3.out]; exact Own.nil_ _ _, .inl rfl, below_st6 B.out (Nat.le_refl _) _ _ _ _ _ _⟩
end Go.Proofs.YtolbkdcnmkmncaaDoor
namespace Go.Proofs.YtolbkdcnmkmncaaDoor
open Go.RowKit

theorem pp_of_front {zs : List Int} (hv : validL zs = true) (hl : 3 ≤ zs.length) (h0 : zs.getD 0 0 = 0) (h1 : zs.getD 1 0 = 0) : aoOk (zs.drop 3) = ppIn zs := by
  have hd : validL (zs.drop 3) = true := validL_of (by have := validL_len hv; simp; omega) fun x hx => bytes_of_valid hv x (List.mem_of_mem_drop hx)
  rw [aoOk, ppIn, hv, hd, decide_eq_true hl, decide_eq_true h0, decide_eq_true h1]
  rfl
theorem ppQ_len (zs : List Int) : (ppQ (ppOk zs) zs).length ≤ 4 := by
  cases h : ppOk zs
  · simp [ppQ]
  · have hin : ppIn zs = true := by
      rw [ppOk, Bool.and_eq_true, Bool.and_eq_true] at h
      exact h.1.1
    have := (adOk_sizes (afOk_parts (ppIn_parts hin).2.2.2.2).2).1
    simpa [ppQ] using this
theorem ppE_len (zs : List Int) : (ppE (ppOk zs) zs).length ≤ 120 := by
  cases h : ppOk zs
  · simp [ppE]
  · rw [ppOk, Bool.and_eq_true] at h
    have h2 : (ppD zs).length ≤ 40 := of_decide_eq_true h.2
    simp only [ppE, if_pos]
    omega
theorem pf3_nums {n L : Nat} (h : 3 + n ≤ L) (hL : L ≤ 120) : IntKind.i64.wrap (3 + (n : Int)) = 3 + (n : Int) ∧ wrap64 (3 + (n : Int)) = 3 + (n : Int) ∧ (0 : Int) ≤ 3 + (n : Int) ∧ 3 + (n : Int) ≤ (L : Int) :=
  ⟨IntWalk.i64_in _ (by omega), IntWalk.wrap64_in _ (by omega), by omega, by omega⟩
/-- Behind the struct's making. -/
def PfMid (V1 : World) (C K P : Int) (M : ByteArray) (D : List Int) (q : Value) (X : Nat) (d : Value) (wx : World) : Prop :=
  V1.heap.size ≤ X ∧ Blk wx X 41 #[.int .i64 C, .int .i64 K, q, .string M, .int .i64 P, d] ∧ Own wx V1.heap.size d D ∧ Below V1.heap.size V1 wx
theorem Blk.drew {w : World} {g : Nat} {t : TypeId} {cs : Array Value} (h : Blk w g t cs) : Blk w.drew g t cs := h
theorem pf_ty : 3 ≠ 41 := by decide
theorem pf_kx2 {V1 w3 : World} {E : Obj} (g3 : ((V1.alloc E).alloc (.cells #[.int .i64 0, .int .i64 0, .slice none 0 0, .string ⟨#[]⟩, .int .i64 0, .slice none 0 0] 41)).drew.grownBy w3 (Value.slice (some ⟨V1.heap.size, 0, none⟩) 0 0).ownBlock) : Blk w3 (V1.heap.size + 1) 41 #[.int .i64 0, .int .i64 0, .slice none 0 0, .string ⟨#[]⟩, .int .i64 0, .slice none 0 0] :=
  (Blk.drew (Blk.newAt (by simp))).grown g3 (by simp [Value.ownBlock])
theorem pf_kx3 {V1 w3 : World} {E : Obj} (g3 : ((V1.alloc (.cells #[.int .i64 0, .int .i64 0, .slice none 0 0, .string ⟨#[]⟩, .int .i64 0, .slice none 0 0] 41)).alloc E).drew.grownBy w3 (Value.slice (some ⟨V1.heap.size + 1, 0, none⟩) 0 0).ownBlock) : Blk w3 V1.heap.size 41 #[.int .i64 0, .int .i64 0, .slice none 0 0, .string ⟨#[]⟩, .int .i64 0, .slice none 0 0] :=
  (Blk.drew (Blk.alloc (Blk.newAt rfl) _)).grown g3 (by simp [Value.ownBlock])
/-- An own row of integers lies in another block than one of another type. -/
theorem Own.offBlk {w : World} {base g : Nat} {v : Value} {zs : List Int} {ty : TypeId} {cs : Array Value} (h : Own w base v zs) (hb : Blk w g ty cs) (hne : 3 ≠ ty) : v.ownBlock ≠ some g := by
  rcases h.2 with ⟨h0, _⟩ | ⟨b, cap, cur, he, _, hh, _⟩
  · subst h0
    simp [Value.ownBlock]
  · subst he
    intro h1
    simp only [Value.ownBlock] at h1
    injection h1 with h1
    subst h1
    rw [Blk] at hb
    rw [hh] at hb
    injection hb with hb
    injection hb with _ h2
    exact hne h2
theorem drew_size (w : World) : w.drew.heap.size = w.heap.size := rfl
theorem Own.six {w : World} {base B : Nat} {s x y z u v t : Value} {zs : List Int} (h : Own w base s zs) (hb : s.ownBlock ≠ some B) : Own ((((((w.setCell ⟨B, 0, none⟩ x).setCell ⟨B, 1, none⟩ y).setCell ⟨B, 2, none⟩ z).setCell ⟨B, 3, none⟩ u).setCell ⟨B, 4, none⟩ v).setCell ⟨B, 5, none⟩ t) base s zs :=
  (((((h.farN hb x).farN hb y).farN hb z).farN hb u).farN hb v).farN hb t
theorem Blk.six {w : World} {g : Nat} {ty : TypeId} {a b c d e f : Value} (h : Blk w g ty #[a, b, c, d, e, f]) (x y z u v t : Value) : Blk ((((((w.setCell ⟨g, 0, none⟩ x).setCell ⟨g, 1, none⟩ y).setCell ⟨g, 2, none⟩ z).setCell ⟨g, 3, none⟩ u).setCell ⟨g, 4, none⟩ v).setCell ⟨g, 5, none⟩ t) g ty #[x, y, z, u, v, t] :=
  (((((h.set_ 0 x).set_ 1 y).set_ 2 z).set_ 3 u).set_ 4 v).set_ 5 t
theorem pf_keep {V1 W W' : World} {b o Y : Nat} {c x y z u : Value} (hb : b < V1.heap.size) (hY : Y < V1.heap.size) (h : W.cell? ⟨b, o + 2, none⟩ = some c ∧ W.cell? ⟨Y, 0, none⟩ = some x ∧ W.cell? ⟨Y, 1, none⟩ = some y ∧ W.cell? ⟨Y, 2, none⟩ = some z ∧ W.cell? ⟨Y, 3, none⟩ = some u ∧ Below V1.heap.size V1 W) (k : Below V1.heap.size W W') :
    W'.cell? ⟨b, o + 2, none⟩ = some c ∧ W'.cell? ⟨Y, 0, none⟩ = some x ∧ W'.cell? ⟨Y, 1, none⟩ = some y ∧ W'.cell? ⟨Y, 2, none⟩ = some z ∧ W'.cell? ⟨Y, 3, none⟩ = some u ∧ Below V1.heap.size V1 W' := by
  obtain ⟨h0, h1, h2, h3, h4, h5⟩ := h
  exact ⟨(k.cell (p := ⟨b, o + 2, none⟩) hb).trans h0, (k.cell (p := ⟨Y, 0, none⟩) hY).trans h1, (k.cell (p := ⟨Y, 1, none⟩) hY).trans h2, (k.cell (p := ⟨Y, 2, none⟩) hY).trans h3, (k.cell (p := ⟨Y, 3, none⟩) hY).trans h4, h5.trans k⟩
theorem pf_below {V1 W W' : World} {b o Y : Nat} {c x y z u : Value} (h : W.cell? ⟨b, o + 2, none⟩ = some c ∧ W.cell? ⟨Y, 0, none⟩ = some x ∧ W.cell? ⟨Y, 1, none⟩ = some y ∧ W.cell? ⟨Y, 2, none⟩ = some z ∧ W.cell? ⟨Y, 3, none⟩ = some u ∧ Below V1.heap.size V1 W) (k : Below V1.heap.size W W') : Below V1.heap.size V1 W' := h.2.2.2.2.2.trans k
theorem below_six {B0 : Nat} {w W : World} {g : Nat} {x y z u v t : Value} (h : Below B0 w W) (hg : B0 ≤ g) : Below B0 w ((((((W.setCell ⟨g, 0, none⟩ x).setCell ⟨g, 1, none⟩ y).setCell ⟨g, 2, none⟩ z).setCell ⟨g, 3, none⟩ u).setCell ⟨g, 4, none⟩ v).setCell ⟨g, 5, none⟩ t) :=
  (((((h.setCell (p := ⟨g, 0, none⟩) hg x).setCell (p := ⟨g, 1, none⟩) hg y).setCell (p := ⟨g, 2, none⟩) hg z).setCell (p := ⟨g, 3, none⟩) hg u).setCell (p := ⟨g, 4, none⟩) hg v).setCell (p := ⟨g, 5, none⟩) hg t
theorem pf_alloc {V1 W : World} {b o Y : Nat} {c x y z u : Value} (hb : b < V1.heap.size) (hY : Y < V1.heap.size) (h : W.cell? ⟨b, o + 2, none⟩ = some c ∧ W.cell? ⟨Y, 0, none⟩ = some x ∧ W.cell? ⟨Y, 1, none⟩ = some y ∧ W.cell? ⟨Y, 2, none⟩ = some z ∧ W.cell? ⟨Y, 3, none⟩ = some u ∧ Below V1.heap.size V1 W) (ob : Obj) :
    (W.alloc ob).cell? ⟨b, o + 2, none⟩ = some c ∧ (W.alloc ob).cell? ⟨Y, 0, none⟩ = some x ∧ (W.alloc ob).cell? ⟨Y, 1, none⟩ = some y ∧ (W.alloc ob).cell? ⟨Y, 2, none⟩ = some z ∧ (W.alloc ob).cell? ⟨Y, 3, none⟩ = some u ∧ Below V1.heap.size V1 (W.alloc ob) :=
  pf_keep hb hY h ((Below.refl _ W).alloc h.2.2.2.2.2.size ob)
theorem pf_set {V1 W : World} {b o Y B i : Nat} {c x y z u : Value} (hb : b < V1.heap.size) (hY : Y < V1.heap.size) (hB : V1.heap.size ≤ B) (t : Value) (h : W.cell? ⟨b, o + 2, none⟩ = some c ∧ W.cell? ⟨Y, 0, none⟩ = some x ∧ W.cell? ⟨Y, 1, none⟩ = some y ∧ W.cell? ⟨Y, 2, none⟩ = some z ∧ W.cell? ⟨Y, 3, none⟩ = some u ∧ Below V1.heap.size V1 W) :
    (W.setCell ⟨B, i, none⟩ t).cell? ⟨b, o + 2, none⟩ = some c ∧ (W.setCell ⟨B, i, none⟩ t).cell? ⟨Y, 0, none⟩ = some x ∧ (W.setCell ⟨B, i, none⟩ t).cell? ⟨Y, 1, none⟩ = some y ∧ (W.setCell ⟨B, i, none⟩ t).cell? ⟨Y, 2, none⟩ = some z ∧ (W.setCell ⟨B, i, none⟩ t).cell? ⟨Y, 3, none⟩ = some u ∧ Below V1.heap.size V1 (W.setCell ⟨B, i, none⟩ t) :=
  pf_keep hb hY h ((Below.refl _ W).setCell (p := ⟨B, i, none⟩) hB t)

set_option maxRecDepth 100000 in
set_option maxHeartbeats 4000000 in
theorem spec_PacketFrom_front (v : Value) (zs : List Int) (w : World) (hv : Ints w 0 v zs) (hvl : validL zs = true) (hl : 3 ≤ zs.length) (h0 : zs.getD 0 0 = 0) (h1 : zs.getD 1 0 = 0) :
    Calls Tryd.prog 38 #[v] w fun e w' => GavePp w (ppOk zs) zs e w' := by
  have HV := Lib.hid hv
  obtain ⟨A, c, rfl, hc, hm, hA⟩ := hv.open_
  have hao := pp_of_front hvl hl h0 h1
  have hl120 := validL_len hvl
  obtain ⟨b, o, rfl, _, hb, hs⟩ := hA.resolve_left (fun h => by rw [h] at hl; simp at hl)
  obtain ⟨V, hV⟩ : ∃ V, w.alloc (.cells #[.int .i64 0, .int .i64 0, .slice none 0 0, .string ⟨#[]⟩, .int .i64 0, .slice none 0 0] 41) = V := ⟨_, rfl⟩
  have K : Hid (Blk V w.heap.size 41 #[.int .i64 0, .int .i64 0, .slice none 0 0, .string .empty, .int .i64 0, .slice none 0 0]) := Lib.hid (by rw [← hV]; exact Blk.new _ _ _)
  have B : Hid (Below w.heap.size w V) := Lib.hid (by rw [← hV]; exact (Below.refl _ _).alloc (Nat.le_refl _) _)
  have I : Hid (Ints V 0 (.slice (some ⟨b, o, none⟩) zs.length c) zs) := Lib.hid (by rw [← hV]; exact HV.out.alloc _)
  have hsV : Seg V 3 b o (iv zs) := by rw [← hV]; exact hs.alloc _
  have zV : V.heap.size = w.heap.size + 1 := by rw [← hV]; simp
  have c0 := hsV.int_at (j := 0) (by omega)
  have c1 := hsV.int_at (j := 1) (by omega)
  rw [Nat.add_zero, h0] at c0
  rw [h1] at c1
  have HSV := Lib.hid hsV
  obtain ⟨V3, hV3, j3⟩ := slice_end hsV rfl (l := 3) hl hc hm
  have hV3' : ∀ W : World, (Instr.slice 23 (.slice (some ⟨b, o, none⟩) zs.length c) (some (.int .i64 3)) none none).run Tryd.prog W = .ok V3 W := hV3
  have h3 : ¬ (zs.length : Int) < 3 := by omega
  have hp0 : (0 : Int) < (zs.length : Int) := by omega
  have hp1 : (1 : Int) < (zs.length : Int) := by omega
  have hp2 : (2 : Int) < (zs.length : Int) := by omega
  have HAO : ∃ K Q M P N, (∀ (u : Value) (W : World), Ints W 0 u (zs.drop 3) → Calls Tryd.prog 76 #[u] W fun e w' => ∃ q, e = .returned (.tuple #[.agg #[.int .i64 K, q, .string M, .int .i64 P], .int .i64 N, .bool (ppIn zs)]) ∧ Own w' W.heap.size q Q ∧ Below W.heap.size W w') ∧
      (ppIn zs = true → ∃ n D : _, N = ((n : Nat) : Int) ∧ 3 + n ≤ zs.length ∧ zs.drop (3 + n) = D ∧ D.length ≤ 120 ∧ M.size < 4294967281 ∧ pkOk (zs.getD 2 0) K Q M P D = ppOk zs ∧ (ppOk zs = true → (∀ q d, PpT (ppOk zs) zs q d = .tuple #[.agg #[.int .i64 (zs.getD 2 0), .int .i64 K, q, .string M, .int .i64 P, d], .bool true]) ∧ ppQ (ppOk zs) zs = Q ∧ ppE (ppOk zs) zs = D)) := by
    refine ⟨if aoOk (zs.drop 3) = true then (zs.drop 3).getD 0 0 else 0, if aoOk (zs.drop 3) = true then aQ (zs.drop 3) else [], if aoOk (zs.drop 3) = true then aM (zs.drop 3) else ByteArray.empty, if aoOk (zs.drop 3) = true then aP (zs.drop 3) else 0, if aoOk (zs.drop 3) = true then (aN (zs.drop 3) : Int) else 0, fun u W h => (spec_AddressOf_any u _ W h).mono fun e w' ⟨q, h1, h2, h3⟩ => ⟨q, ?_, h2, h3⟩, fun h => ?_⟩
    · rw [h1, ← hao]; rfl
    · have h' := hao.trans h
      have hN := (afOk_parts (ppIn_parts h).2.2.2.2).1
      have hat := ppAt_le h
      have hMs := pm_size (ppIn_parts h).2.2.2.2
      rw [h', if_pos rfl, if_pos rfl, if_pos rfl, if_pos rfl, if_pos rfl]
      exact ⟨aN (zs.drop 3), ppD zs, rfl, hat, rfl, by unfold ppD; simp; omega, hMs, pp_pk h, fun hy => ppT_yes hy⟩
  obtain ⟨K', Q, M, P, N, H1, H2⟩ := HAO
  have HAO := Lib.hid H1
  have HT := Lib.hid H2
  have c2 := hsV.int_at (j := 2) (by omega)
  obtain ⟨C, hC⟩ : ∃ C, zs.getD 2 0 = C := ⟨_, rfl⟩
  rw [hC] at c2 HT
  have J3 := Lib.hid j3
  have hbV : b < V.heap.size := by omega
  clear hv hV3 hs hsV hA h0 h1 hao j3 hl H1 H2 hC
  go_enter Tryd.func38, Tryd.ntmps38
  go_wp2_with (go_at_call 75; refine (spec_BytesValid_any _ zs _ I.out).mono ?_; rintro e w' ⟨rfl, rfl⟩; rw [hvl])
  refine (HAO.out _ _ J3.out).mono ?_
  rintro e w1 ⟨q, rfl, o1, b1⟩
  obtain ⟨A1, d1, rfl, _, _, _⟩ := o1.form
  obtain ⟨V1, hV1⟩ : ∃ V1, w1.alloc (.cells #[.int .i64 K', .slice A1 Q.length d1, .string M, .int .i64 P] 26) = V1 := ⟨_, rfl⟩
  have X1 : Hid (Blk V1 w1.heap.size 26 #[.int .i64 K', .slice A1 Q.length d1, .string M, .int .i64 P]) := Lib.hid (by rw [← hV1]; exact Blk.new _ _ _)
  have K1 : Hid (Blk V1 w.heap.size 41 #[.int .i64 0, .int .i64 0, .slice none 0 0, .string .empty, .int .i64 0, .slice none 0 0]) := Lib.hid (by rw [← hV1]; exact (K.out.kept b1).alloc _)
  have O1 : Hid (Own V1 (w.heap.size + 1) (.slice A1 Q.length d1) Q) := Lib.hid (by rw [← hV1, ← zV]; exact o1.alloc _)
  have S1 : Hid (Seg V1 3 b o (iv zs)) := Lib.hid (by rw [← hV1]; exact (HSV.out.below b1 hbV).alloc _)
  have B1 : Hid (Below w.heap.size w V1) := Lib.hid (by
    rw [← hV1]
    have h := B.out.trans (b1.mono B.out.size)
    exact h.alloc h.size _)
  have e2 : V1.cell? ⟨b, o + 2, none⟩ = some (.int .i64 C) := by
    rw [← hV1]
    exact (World.cell?_alloc_lt w1 _ ⟨b, o + 2, none⟩ (Nat.lt_of_lt_of_le hbV b1.size)).trans ((b1.cell (p := ⟨b, o + 2, none⟩) hbV).trans c2)
  have z1 : w.heap.size < w1.heap.size := by have := b1.size; omega
  have hYV : w1.heap.size < V1.heap.size := X1.out.lt
  have hbW : b < V1.heap.size := S1.out.lt
  have y0 : V1.cell? ⟨w1.heap.size, 0, none⟩ = some (Value.int .i64 K') := X1.out.cell 0
  have y1 : V1.cell? ⟨w1.heap.size, 1, none⟩ = some (.slice A1 Q.length d1) := X1.out.cell 1
  have y2 : V1.cell? ⟨w1.heap.size, 2, none⟩ = some (.string M) := X1.out.cell 2
  have y3 : V1.cell? ⟨w1.heap.size, 3, none⟩ = some (.int .i64 P) := X1.out.cell 3
  have r0 : V1.cell? ⟨w.heap.size, 0, none⟩ = some (.int .i64 0) := K1.out.cell 0
  have r1 : V1.cell? ⟨w.heap.size, 1, none⟩ = some (.int .i64 0) := K1.out.cell 1
  have r2 : V1.cell? ⟨w.heap.size, 2, none⟩ = some (.slice none 0 0) := K1.out.cell 2
  have r3 : V1.cell? ⟨w.heap.size, 3, none⟩ = some (.string .empty) := K1.out.cell 3
  have r4 : V1.cell? ⟨w.heap.size, 4, none⟩ = some (.int .i64 0) := K1.out.cell 4
  have r5 : V1.cell? ⟨w.heap.size, 5, none⟩ = some (.slice none 0 0) := K1.out.cell 5
  have f0 := K1.out.free 0
  have f1 := K1.out.free 1
  have f2 := K1.out.free 2
  have f3 := K1.out.free 3
  have f4 := K1.out.free 4
  have f5 := K1.out.free 5
  have n1 : w.heap.size ≠ w1.heap.size := by omega
  have n2 : w1.heap.size ≠ w.heap.size := by omega
  have HVV := Lib.hid hV1
  clear o1 b1 c0 c1 c2
  cases hin : ppIn zs
  · have hok : ppOk zs = false := by rw [ppOk, hin]; rfl
    obtain ⟨t1, t2, t3⟩ := ppT_not hok
    have T1 := Lib.hid t1
    have T2 := Lib.hid t2
    have T3 := Lib.hid t3
    clear t1 t2 t3 hin hok
    go_wp2_with fail
    refine bodyPost_ret (v := .tuple #[.agg #[.int .i64 0, .int .i64 0, .slice none 0 0, .string .empty, .int .i64 0, .slice none 0 0], .bool false]) (by simp [results, Tryd.results38, go_sem, r0, r1, r2, r3, r4, r5]; try rfl) rfl ?_
    exact ⟨_, _, by rw [T1.out], by rw [T2.out]; exact Own.nil_ _ _, by rw [T3.out]; exact Own.nil_ _ _, .inl rfl, below_st6 B1.out (Nat.le_refl _) _ _ _ _ _ _⟩
  · obtain ⟨n, D, rfl, hn, hD, hDl, hMs_, hpk, hy⟩ := HT.out hin
    have HPK := Lib.hid hpk
    have HY := Lib.hid hy
    have HMs := Lib.hid hMs_
    obtain ⟨V4, hV4, j4⟩ := slice_end S1.out rfl (l := 3 + n) hn hc hm
    rw [hD] at j4
    simp only [Int.natCast_add, Int.cast_ofNat_Int] at hV4
    have hV4' : ∀ W : World, (Instr.slice 23 (.slice (some ⟨b, o, none⟩) zs.length c) (some (.int .i64 (3 + (n : Int)))) none none).run Tryd.prog W = .ok V4 W := hV4
    have J4 := Lib.hid j4
    obtain ⟨w1_, w2_, hn0, hn1⟩ := pf3_nums hn hl120
    have CV : Hid (V1.cell? ⟨b, o + 2, none⟩ = some (.int .i64 C) ∧ V1.cell? ⟨w1.heap.size, 0, none⟩ = some (Value.int .i64 K') ∧ V1.cell? ⟨w1.heap.size, 1, none⟩ = some (.slice A1 Q.length d1) ∧ V1.cell? ⟨w1.heap.size, 2, none⟩ = some (.string M) ∧ V1.cell? ⟨w1.heap.size, 3, none⟩ = some (.int .i64 P) ∧ Below V1.heap.size V1 V1) := Lib.hid ⟨e2, y0, y1, y2, y3, Below.refl _ _⟩
    have N0 : Hid (w.heap.size < V1.heap.size) := Lib.hid (by omega)
    clear hin hV4 j4 hpk hy hMs_ HT hD hn
    go_wp2_with fail
    go_cut [7] from 39 to 49 (fun s7 wx => ∃ X d, s7 = .pointer (some ⟨X, 0, none⟩) ∧ PfMid V1 C K' P M D (.slice A1 Q.length d1) X d wx)
    case first =>
      go_region_held3 (fun W => W.cell? ⟨b, o + 2, none⟩ = some (.int .i64 C) ∧ W.cell? ⟨w1.heap.size, 0, none⟩ = some (Value.int .i64 K') ∧ W.cell? ⟨w1.heap.size, 1, none⟩ = some (.slice A1 Q.length d1) ∧ W.cell? ⟨w1.heap.size, 2, none⟩ = some (.string M) ∧ W.cell? ⟨w1.heap.size, 3, none⟩ = some (.int .i64 P) ∧ Below V1.heap.size V1 W)
        (first | with_reducible exact pf_keep hbW hYV CV.out (BS.out _ _ _ _ _ _) | with_reducible exact pf_keep hbW hYV CV.out (BW3.out.alloc BW3.out.size _) | with_reducible exact pf_keep hbW hYV CV.out BW3.out | with_reducible exact pf_keep hbW hYV CV.out (((Below.refl _ V1).alloc (Nat.le_refl _) _).alloc ((Below.refl _ V1).alloc (Nat.le_refl _) _).size _).drew | with_reducible exact pf_keep hbW hYV CV.out ((Below.refl _ V1).alloc (Nat.le_refl _) _).drew | with_reducible exact pf_keep hbW hYV CV.out (Below.refl _ V1).drew)
        (first
          | (refine step_ints (by rfl) (.tmp 43) (.tmp 47) (by rfl) (by rfl) (by rfl) (base := V1.heap.size) (v := .slice (some ⟨_, 0, none⟩) 0 0) (u := V4) (zs := []) (ys := D) ?_ ?_ ?_ ?_ ?_; (repeat (first | ((with_reducible refine Own.lit_0 ?_ ?_); (first | with_reducible rfl | simp); (first | exact Nat.le_refl _ | simp)) | (with_reducible refine Own.drew ?_) | (with_reducible refine Own.alloc ?_ _))); (repeat (first | (with_reducible exact J4.out) | (with_reducible refine Ints.drew ?_) | (with_reducible refine Ints.alloc ?_ _))); (simp; omega); (simp; try omega); intro v3 w3 o3 b3 g3 k3; rw [List.nil_append] at o3; have BW3 := Lib.hid (pf_below ‹_› b3); (first | (have kx := pf_kx2 g3; have KX3 := Lib.hid kx; have HNE := Lib.hid (o3.offBlk kx pf_ty); have BS := Lib.hid (fun (x y z u v t : Value) => below_six (x := x) (y := y) (z := z) (u := u) (v := v) (t := t) (g := V1.heap.size + 1) BW3.out (Nat.le_succ _)); have x0 : w3.cell? ⟨V1.heap.size + 1, 0, none⟩ = some (.int .i64 0) := kx.cell 0; have x1 : w3.cell? ⟨V1.heap.size + 1, 1, none⟩ = some (.int .i64 0) := kx.cell 1; have x2 : w3.cell? ⟨V1.heap.size + 1, 2, none⟩ = some (.slice none 0 0) := kx.cell 2; have x3 : w3.cell? ⟨V1.heap.size + 1, 3, none⟩ = some (.string ⟨#[]⟩) := kx.cell 3; have x4 : w3.cell? ⟨V1.heap.size + 1, 4, none⟩ = some (.int .i64 0) := kx.cell 4; have x5 : w3.cell? ⟨V1.heap.size + 1, 5, none⟩ = some (.slice none 0 0) := kx.cell 5; have g0_ : w3.frozen? ⟨V1.heap.size + 1, 0, none⟩ = false := kx.free 0; have g1_ : w3.frozen? ⟨V1.heap.size + 1, 1, none⟩ = false := kx.free 1; have g2_ : w3.frozen? ⟨V1.heap.size + 1, 2, none⟩ = false := kx.free 2; have g3_ : w3.frozen? ⟨V1.heap.size + 1, 3, none⟩ = false := kx.free 3; have g4_ : w3.frozen? ⟨V1.heap.size + 1, 4, none⟩ = false := kx.free 4; have g5_ : w3.frozen? ⟨V1.heap.size + 1, 5, none⟩ = false := kx.free 5; clear kx) | (have kx := pf_kx3 g3; have KX3 := Lib.hid kx; have HNE := Lib.hid (o3.offBlk kx pf_ty); have BS := Lib.hid (fun (x y z u v t : Value) => below_six (x := x) (y := y) (z := z) (u := u) (v := v) (t := t) (g := V1.heap.size) BW3.out (Nat.le_refl _)); have x0 : w3.cell? ⟨V1.heap.size, 0, none⟩ = some (.int .i64 0) := kx.cell 0; have x1 : w3.cell? ⟨V1.heap.size, 1, none⟩ = some (.int .i64 0) := kx.cell 1; have x2 : w3.cell? ⟨V1.heap.size, 2, none⟩ = some (.slice none 0 0) := kx.cell 2; have x3 : w3.cell? ⟨V1.heap.size, 3, none⟩ = some (.string ⟨#[]⟩) := kx.cell 3; have x4 : w3.cell? ⟨V1.heap.size, 4, none⟩ = some (.int .i64 0) := kx.cell 4; have x5 : w3.cell? ⟨V1.heap.size, 5, none⟩ = some (.slice none 0 0) := kx.cell 5; have g0_ : w3.frozen? ⟨V1.heap.size, 0, none⟩ = false := kx.free 0; have g1_ : w3.frozen? ⟨V1.heap.size, 1, none⟩ = false := kx.free 1; have g2_ : w3.frozen? ⟨V1.heap.size, 2, none⟩ = false := kx.free 2; have g3_ : w3.frozen? ⟨V1.heap.size, 3, none⟩ = false := kx.free 3; have g4_ : w3.frozen? ⟨V1.heap.size, 4, none⟩ = false := kx.free 4; have g5_ : w3.frozen? ⟨V1.heap.size, 5, none⟩ = false := kx.free 5; clear kx) | skip); obtain ⟨A3, c3, rfl, _, _, _⟩ := o3.form)
          | fail)
      all_goals
        rename_i hS
        have hbw := hS.2.2.2.2.2
        go_wp2_with fail
        go_meet
        first
          | exact ⟨_, _, rfl, Nat.le_refl _, KX3.out.six _ _ _ _ _ _, o3.six HNE.out, hbw⟩
          | exact ⟨_, _, rfl, Nat.le_succ _, KX3.out.six _ _ _ _ _ _, o3.six HNE.out, hbw⟩
          | exact ⟨_, _, rfl, by have := b3.size; simp at this; omega, Blk.new _ _ _, o3.alloc _, hbw⟩
    case rest =>
      obtain ⟨X, d, rfl, hX, kx, od, bx⟩ := hcut
      have AP := Lib.hid (O1.out.ahead od)
      obtain ⟨A3, c3, rfl, _, _, _⟩ := od.form
      have KX := Lib.hid kx
      have OD := Lib.hid od
      have O2 := Lib.hid (O1.out.below bx)
      have K2 := Lib.hid (K1.out.kept bx)
      have B2 := Lib.hid (B1.out.trans (bx.mono B1.out.size))
      have hn0' := N0.out
      have x0 : wc.cell? ⟨X, 0, none⟩ = some (Value.int .i64 C) := kx.cell 0
      have x1 : wc.cell? ⟨X, 1, none⟩ = some (.int .i64 K') := kx.cell 1
      have x2 : wc.cell? ⟨X, 2, none⟩ = some (.slice A1 Q.length d1) := kx.cell 2
      have x3 : wc.cell? ⟨X, 3, none⟩ = some (.string M) := kx.cell 3
      have x4 : wc.cell? ⟨X, 4, none⟩ = some (.int .i64 P) := kx.cell 4
      have x5 : wc.cell? ⟨X, 5, none⟩ = some (.slice A3 D.length c3) := kx.cell 5
      clear kx od bx y0 y1 y2 y3 r0 r1 r2 r3 r4 r5 f0 f1 f2 f3 f4 f5 e2
      go_wp2_with fail
      refine (l13Ok_any C K' _ M P Q _ D _ O2.out.ints.zero OD.out.ints.zero HMs.out).mono ?_
      rintro e w5 ⟨rfl, b5⟩
      rw [HPK.out]
      have KX5 := KX.out.kept b5
      have KR5 := K2.out.kept b5
      have O5 := Lib.hid (O2.out.below b5)
      have D5 := Lib.hid (OD.out.below b5)
      have B5 := Lib.hid (B2.out.trans (b5.mono B2.out.size))
      clear b5 x0 x1 x2 x3 x4 x5
      have x0 : w5.cell? ⟨X, 0, none⟩ = some (Value.int .i64 C) := KX5.cell 0
      have x1 : w5.cell? ⟨X, 1, none⟩ = some (.int .i64 K') := KX5.cell 1
      have x2 : w5.cell? ⟨X, 2, none⟩ = some (.slice A1 Q.length d1) := KX5.cell 2
      have x3 : w5.cell? ⟨X, 3, none⟩ = some (.string M) := KX5.cell 3
      have x4 : w5.cell? ⟨X, 4, none⟩ = some (.int .i64 P) := KX5.cell 4
      have x5 : w5.cell? ⟨X, 5, none⟩ = some (.slice A3 D.length c3) := KX5.cell 5
      have r0 : w5.cell? ⟨w.heap.size, 0, none⟩ = some (.int .i64 0) := KR5.cell 0
      have r1 : w5.cell? ⟨w.heap.size, 1, none⟩ = some (.int .i64 0) := KR5.cell 1
      have r2 : w5.cell? ⟨w.heap.size, 2, none⟩ = some (.slice none 0 0) := KR5.cell 2
      have r3 : w5.cell? ⟨w.heap.size, 3, none⟩ = some (.string .empty) := KR5.cell 3
      have r4 : w5.cell? ⟨w.heap.size, 4, none⟩ = some (.int .i64 0) := KR5.cell 4
      have r5 : w5.cell? ⟨w.heap.size, 5, none⟩ = some (.slice none 0 0) := KR5.cell 5
      have f0 := KR5.free 0
      have f1 := KR5.free 1
      have f2 := KR5.free 2
      have f3 := KR5.free 3
      have f4 := KR5.free 4
      have f5 := KR5.free 5
      have n3 : w.heap.size ≠ X := by omega
      have n4 : X ≠ w.heap.size := by omega
      clear KX5 KR5 KX K2 O2 OD B2
      cases hok : ppOk zs
      · obtain ⟨t1, t2, t3⟩ := ppT_not hok
        have T1 := Lib.hid t1
        have T2 := Lib.hid t2
        have T3 := Lib.hid t3
        clear t1 t2 t3 hok
        go_wp2_with fail
        refine bodyPost_ret (v := .tuple #[.agg #[.int .i64 0, .int .i64 0, .slice none 0 0, .string .empty, .int .i64 0, .slice none 0 0], .bool false]) (by simp [results, Tryd.results38, go_sem, r0, r1, r2, r3, r4, r5]; try rfl) rfl ?_
        exact ⟨_, _, by rw [T1.out], by rw [T2.out]; exact Own.nil_ _ _, by rw [T3.out]; exact Own.nil_ _ _, .inl rfl, below_st6 B5.out (Nat.le_refl _) _ _ _ _ _ _⟩
      · obtain ⟨t1, t2, t3⟩ := HY.out hok
        have T1 := Lib.hid t1
        have T2 := Lib.hid t2
        have T3 := Lib.hid t3
        clear t1 t2 t3 hok
        go_wp2_with fail
        refine bodyPost_ret (v := .tuple #[.agg #[.int .i64 C, .int .i64 K', .slice A1 Q.length d1, .string M, .int .i64 P, .slice A3 D.length c3], .bool true]) (by simp [results, Tryd.results38, go_sem, r0, r1, r2, r3, r4, r5]; try rfl) rfl ?_
        exact ⟨_, _, by rw [T1.out], by rw [T2.out]; exact (O5.out.st6 (by omega)).more (by omega), by rw [T3.out]; exact (D5.out.st6 (by omega)).more (by omega), AP.out, below_st6 B5.out (Nat.le_refl _) _ _ _ _ _ _⟩

theorem spec_PacketFrom_any (v : Value) (zs : List Int) (w : World) (hv : Ints w 0 v zs) : Calls Tryd.prog 38 #[v] w fun e w' => GavePp w (ppOk zs) zs e w' := by
  cases hvl : validL zs
  · exact spec_PacketFrom_not v zs w hv (.inl hvl) (by rw [ppOk, ppIn, hvl]; simp)
  by_cases hl : 3 ≤ zs.length
  case neg => exact spec_PacketFrom_not v zs w hv (.inr (.inl (by omega))) (by rw [ppOk, ppIn, decide_eq_false hl]; simp)
  by_cases h0 : zs.getD 0 0 = 0
  case neg => exact spec_PacketFrom_not v zs w hv (.inr (.inr ⟨by omega, .inl h0⟩)) (by rw [ppOk, ppIn, decide_eq_false h0]; simp)
  by_cases h1 : zs.getD 1 0 = 0
  case neg => exact spec_PacketFrom_not v zs w hv (.inr (.inr ⟨by omega, .inr ⟨h0, h1⟩⟩)) (by rw [ppOk, ppIn, decide_eq_false h1]; simp)
  exact spec_PacketFrom_front v zs w hv hvl hl h0 h1
end Go.Proofs.YtolbkdcnmkmncaaDoor
namespace Go.Proofs.YtolbkdcnmkmncaaDoor
open Go.RowKit

theorem pk_len {f k : Int} {qs : List Int} {nm : ByteArray} {p : Int} {ds : List Int} (h : pkOk f k qs nm p ds = true) : 3 ≤ (pkL f k qs nm p ds).length ∧ (pkL f k qs nm p ds).length ≤ 67 := by
  rw [pkL_ok h]
  exact ⟨by simp [pkB], pkB_length h⟩
theorem pkB_end (f k : Int) (qs : List Int) (nm : ByteArray) (p : Int) (ds : List Int) : 3 + (adB k qs nm p).length ≤ (pkB f k qs nm p ds).length ∧ (pkB f k qs nm p ds).drop (3 + (adB k qs nm p).length) = ds := by
  constructor
  · simp [pkB]
    omega
  · rw [← List.drop_drop]
    simp [pkB]
/-- PacketFrom returned such a packet. -/
def PpGave (u : Value) (W : World) (f k : Int) (qs : List Int) (nm : ByteArray) (p : Int) (ds : List Int) (b : Bool) : Prop :=
  Calls Tryd.prog 40 #[u] W fun e w' => ∃ q d, e = .returned (.tuple #[.agg #[.int .i64 f, .int .i64 k, q, .string nm, .int .i64 p, d], .bool b]) ∧ Own w' W.heap.size q qs ∧ Own w' W.heap.size d ds ∧ Below W.heap.size W w'
theorem pk_gave {f k : Int} {qs : List Int} {nm : ByteArray} {p : Int} {ds : List Int} (h : pkOk f k qs nm p ds = true) (u : Value) (W : World) (hu : Ints W 0 u (pkL f k qs nm p ds)) : PpGave u W f k qs nm p ds true := by
  rw [pkL_ok h] at hu
  obtain ⟨h0, h1, h2, h3, h4, h5, h6⟩ := pk_back h
  refine (impl_PacketFrom_any u _ W hu).mono ?_
  rintro e w' ⟨q, d, rfl, o, p', _, b⟩
  obtain ⟨t1, t2, t3⟩ := ppT_yes h0
  rw [t2, h3] at o
  rw [t3, h6] at p'
  exact ⟨q, d, by rw [t1, h1, h2, h4, h5], o, p', b⟩
end Go.Proofs.YtolbkdcnmkmncaaDoor

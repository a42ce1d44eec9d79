/-
  The program's reader reads a number of two bytes and an address: plain functions of the bytes and the place. Conditions: none.
-/
import Derived.Test.YtolbkdcnmkmncaaDoorText
import Derived.Test.YtolbkdcnmkmncaaDoorAdOk
import Derived.Test.YtolbkdcnmkmncaaDoorNum
import Derived.Test.YtolbkdcnmkmncaaDoorPk
import Derived.Test.YtolbkdcnmkmncaaDoorBlk
import Derived.Test.YtolbkdcnmkmncaaDoorAppend
namespace Go.Proofs.YtolbkdcnmkmncaaDoor
open Go.RowKit

theorem two_of {L : List Int} (h : L.length = 2) : ∃ a b, L = [a, b] := by
  match L, h with
  | [a, b], _ => exact ⟨a, b, rfl⟩

set_option maxRecDepth 100000 in
set_option maxHeartbeats 400000 in
theorem rnumber_any (g : Nat) (v : Value) (zs : List Int) (s : Nat × Bool) (w : World) (hr : Rdr w g v zs s) :
    Calls Tryd.prog 107 #[.pointer (some ⟨g, 0, none⟩), .int .i64 2] w fun e w' => e = .returned (.int .i64 (rNum2 zs s)) ∧ Took w g v zs (rNext zs s 2) w' := by
  have HR := Lib.hid hr
  have hB := rGot_bytes hr.fit 2
  obtain ⟨a, b, hab⟩ := two_of (rGot_length zs s 2)
  rw [hab] at hB
  have EN : Hid (rNum2 zs s = 256 * a + b) := Lib.hid (by rw [rNum2, hab]; rfl)
  have EG := Lib.hid hab
  have HA := hB a (by simp)
  have HB := hB b (by simp)
  clear hr hB hab
  go_enter Tryd.func107, Tryd.ntmps107
  go_wp2_with fail
  refine (take_any g v zs s 2 _ HR.out (by omega)).mono ?_
  rintro e w1 ⟨u, rfl, o1, t1⟩
  rw [EG.out] at o1
  have T1 := Lib.hid t1
  have O1 := Lib.hid o1
  clear t1 o1
  go_wp2_with fail
  refine (number_any _ a b _ O1.out.ints.zero HA HB).mono ?_
  rintro e w2 ⟨rfl, rfl⟩
  go_wp2_with fail
  go_ret
  exact ⟨by rw [EN.out]; rfl, T1.out⟩

theorem slice_ints_ {P : Program} {t : TypeId} {w : World} {b o len c s : Nat} {l h : Int} (ht : P.underlying t = some (.slice (P.elem t))) (hz : (sizeOf (P.elem t)).run P w = .ok s w) (h0 : 0 ≤ l) (h1 : l ≤ h) (h2 : h ≤ c) :
    (Instr.slice t (.slice (some ⟨b, o, none⟩) len c) (some (.int .i64 l)) (some (.int .i64 h)) none).run P w = .ok (sliced (some ⟨b, o, none⟩) l.toNat h.toNat c s) w := by
  rw [run_slice_lh w t _ len c ht .i64 .i64 l h h0 h1 h2, hz]
  rfl
theorem Tryd.ulInts : Tryd.prog.underlying 23 = some (.slice (Tryd.prog.elem 23)) := by kernel_rfl
theorem Tryd.sizeInts (w : World) : (sizeOf (Tryd.prog.elem 23)).run Tryd.prog w = .ok 1 w := by kernel_rfl
/-- A part of a slice of integers, its run over an abstract value. -/
theorem slice_part {W0 : World} {b o n c l h : Nat} {zs : List Int} (hs : Seg W0 3 b o (iv zs)) (hn : zs.length = n) (hlh : l ≤ h) (hh : h ≤ n) (hnc : n ≤ c) (hc : c ≤ 9223372036854775807) :
    ∃ V, (∀ W : World, (Instr.slice 23 (.slice (some ⟨b, o, none⟩) n c) (some (.int .i64 (l : Int))) (some (.int .i64 (h : Int))) none).run Tryd.prog W = .ok V W) ∧ Ints W0 0 V ((zs.drop l).take (h - l)) := by
  refine ⟨_, fun W => slice_ints_ Tryd.ulInts (Tryd.sizeInts W) (by omega) (by omega) (by omega), ?_⟩
  simp only [Int.toNat_natCast, sliced]
  by_cases hcl : c = l
  · have e : h - l = 0 := by omega
    rw [e, List.take_zero]
    simp [hcl]
    exact Ints.none_ _ _ _ _ (by omega)
  · simp [hcl, addr_add]
    exact Ints.part hs (by omega) (by omega) (by omega)

theorem slice_from_ints {P : Program} {t : TypeId} {w : World} {b o len c s : Nat} {l : Int} (ht : P.underlying t = some (.slice (P.elem t))) (hz : (sizeOf (P.elem t)).run P w = .ok s w) (h0 : 0 ≤ l) (h1 : l ≤ len) :
    (Instr.slice t (.slice (some ⟨b, o, none⟩) len c) (some (.int .i64 l)) none none).run P w = .ok (sliced (some ⟨b, o, none⟩) l.toNat len c s) w := by
  rw [run_slice_l w t _ len c ht .i64 l h0 h1, hz]
  rfl
/-- The end of a slice of integers, its run over an abstract value. -/
theorem slice_end {W0 : World} {b o n c l : Nat} {zs : List Int} (hs : Seg W0 3 b o (iv zs)) (hn : zs.length = n) (hlh : l ≤ n) (hnc : n ≤ c) (hc : c ≤ 9223372036854775807) :
    ∃ V, (∀ W : World, (Instr.slice 23 (.slice (some ⟨b, o, none⟩) n c) (some (.int .i64 (l : Int))) none none).run Tryd.prog W = .ok V W) ∧ Ints W0 0 V (zs.drop l) := by
  refine ⟨_, fun W => slice_from_ints Tryd.ulInts (Tryd.sizeInts W) (by omega) (by omega), ?_⟩
  simp only [Int.toNat_natCast, sliced]
  have hd : zs.drop l = (zs.drop l).take (n - l) := by
    rw [List.take_of_length_le]
    simp
    omega
  by_cases hcl : c = l
  · have e : n - l = 0 := by omega
    rw [hd, e, List.take_zero]
    simp [hcl]
    exact Ints.none_ _ _ _ _ (by omega)
  · rw [hd]
    simp [hcl, addr_add]
    exact Ints.part hs (by omega) (by omega) (by omega)

/-- A struct of four cells is stored, whole. -/
def st4 (w : World) (B : Nat) (x y z u : Value) : World := (((w.setCell ⟨B, 0, none⟩ x).setCell ⟨B, 1, none⟩ y).setCell ⟨B, 2, none⟩ z).setCell ⟨B, 3, none⟩ u
theorem Own.st4 {w : World} {base B : Nat} {v x y z u : Value} {zs : List Int} (h : Own w base v zs) (hb : B < base) : Own (st4 w B x y z u) base v zs := (((h.far hb x).far hb y).far hb z).far hb u
theorem only_st4 {a w : World} {g B : Nat} {x y z u : Value} (h : a.grownBy w (some g)) (hB : a.heap.size ≤ B) : a.grownBy (st4 w B x y z u) (some g) :=
  only_setCell (p := ⟨B, 3, none⟩) (only_setCell (p := ⟨B, 2, none⟩) (only_setCell (p := ⟨B, 1, none⟩) (only_setCell (p := ⟨B, 0, none⟩) h (.inr hB) x) (.inr hB) y) (.inr hB) z) (.inr hB) u
theorem Blk.st4 {w : World} {g : Nat} {t : TypeId} {a b c d : Value} (h : Blk w g t #[a, b, c, d]) (x y z u : Value) : Blk (st4 w g x y z u) g t #[x, y, z, u] :=
  (((h.set_ 0 x).set_ 1 y).set_ 2 z).set_ 3 u
theorem Blk.farSt4 {w : World} {g B : Nat} {t : TypeId} {cs : Array Value} (h : Blk w g t cs) (hb : g ≠ B) (x y z u : Value) : Blk (Go.Proofs.YtolbkdcnmkmncaaDoor.st4 w B x y z u) g t cs :=
  (((h.far (p := ⟨B, 0, none⟩) hb x).far (p := ⟨B, 1, none⟩) hb y).far (p := ⟨B, 2, none⟩) hb z).far (p := ⟨B, 3, none⟩) hb u
theorem Rdr.st4 {w : World} {g B : Nat} {v : Value} {zs : List Int} {s : Nat × Bool} (h : Rdr w g v zs s) {e : TypeId} {a b c d : Value} (hb : Blk w B e #[a, b, c, d]) (he : 3 ≠ e) (hg : g ≠ B) (x y z u : Value) : Rdr (Go.Proofs.YtolbkdcnmkmncaaDoor.st4 w B x y z u) g v zs s :=
  (((h.far hb he hg x).far (hb.set_ 0 x) he hg y).far ((hb.set_ 0 x).set_ 1 y) he hg z).far (((hb.set_ 0 x).set_ 1 y).set_ 2 z) he hg u
theorem below_st4 {B0 : Nat} {w W : World} {g : Nat} (h : Below B0 w W) (hg : B0 ≤ g) (x y z u : Value) : Below B0 w (st4 W g x y z u) :=
  (((h.setCell (p := ⟨g, 0, none⟩) hg x).setCell (p := ⟨g, 1, none⟩) hg y).setCell (p := ⟨g, 2, none⟩) hg z).setCell (p := ⟨g, 3, none⟩) hg u

/-- What a read of an address leaves. -/
def TookAd (w : World) (g : Nat) (v : Value) (zs : List Int) (s : Nat × Bool) (e : Ending) (w' : World) : Prop :=
  ∃ q, e = .returned (.agg #[.int .i64 (raK zs s), q, .string (raM zs s), .int .i64 (raP zs s)]) ∧ Own w' w.heap.size q (raQ zs s) ∧ Took w g v zs (raEnd zs s) w'

set_option maxRecDepth 100000 in
set_option maxHeartbeats 8000000 in
theorem address_any (g : Nat) (v : Value) (zs : List Int) (s : Nat × Bool) (w : World) (hr : Rdr w g v zs s) :
    Calls Tryd.prog 80 #[.pointer (some ⟨g, 0, none⟩)] w fun e w' => TookAd w g v zs s e w' := by
  have HR := Lib.hid hr
  have hgw := hr.lt
  have HM : Hid ((raM zs s).size < 4294967281) := Lib.hid (by
    unfold raM
    split
    · have := rText_len zs (raS1 zs s) (hr.fit.next 1)
      rw [str_length]
      omega
    · decide)
  obtain ⟨k, hk⟩ : ∃ k, raK zs s = k := ⟨_, rfl⟩
  obtain ⟨ok, hok⟩ : ∃ ok, raOk zs s = ok := ⟨_, rfl⟩
  have EO : Hid (adOk k (raQ zs s) (raM zs s) (raP zs s) = ok) := Lib.hid (by rw [← hok, raOk, hk])
  have EE : Hid (raEnd zs s = ((rNext zs (raS2 zs s) 2).1, (rNext zs (raS2 zs s) 2).2 || !ok)) := Lib.hid (by rw [raEnd, hok]; rfl)
  have EP : Hid (rNum2 zs (raS2 zs s) = raP zs s) := Lib.hid rfl
  have EK : Hid (rByte zs s = k) := Lib.hid hk
  have KK := Lib.hid hk
  have EQ : Hid (raQ zs s = if k = 1 then rGot zs (rNext zs s 1) 4 else []) := Lib.hid (by rw [raQ, hk]; rfl)
  have EM : Hid (raM zs s = if k = 3 then strOfNums (rText zs (rNext zs s 1)) else ByteArray.empty) := Lib.hid (by rw [raM, hk]; rfl)
  have ES : Hid (raS2 zs s = if k = 1 then rNext zs (rNext zs s 1) 4 else if k = 3 then rTextN zs (rNext zs s 1) else rNext zs s 1) := Lib.hid (by rw [raS2, hk]; rfl)
  obtain ⟨M, hM⟩ : ∃ M, raM zs s = M := ⟨_, rfl⟩
  obtain ⟨Q, hQ⟩ : ∃ Q, raQ zs s = Q := ⟨_, rfl⟩
  obtain ⟨P, hP⟩ : ∃ P, raP zs s = P := ⟨_, rfl⟩
  have EV : Hid (∀ q, Value.agg #[.int .i64 (raK zs s), q, .string (raM zs s), .int .i64 (raP zs s)] = .agg #[.int .i64 k, q, .string M, .int .i64 P]) := Lib.hid fun q => by rw [hk, hM, hP]
  rw [hM] at EM EO HM
  rw [hQ] at EQ EO
  rw [hP] at EP EO
  have EQ' := Lib.hid hQ
  clear hk hok hr hM hQ hP
  go_enter Tryd.func80, Tryd.ntmps80
  go_wp2_with fail
  refine (byte_any g v zs s _ ((HR.out.alloc _).alloc _)).mono ?_
  rintro e w1 ⟨rfl, t1⟩
  rw [EK.out]
  have KR1 := Lib.hid (((Blk.new w 26 #[.int .i64 0, .slice none 0 0, .string .empty, .int .i64 0]).alloc (.cells #[.int .i64 0, .slice none 0 0, .string .empty, .int .i64 0] 26)).grown t1.2 (by intro h; injection h with h; omega))
  have KA1 : Hid (Blk w1 (w.heap.size + 1) 26 #[.int .i64 0, .slice none 0 0, .string .empty, .int .i64 0]) := Lib.hid (by
    have h := (Blk.new (w.alloc (.cells #[.int .i64 0, .slice none 0 0, .string .empty, .int .i64 0] 26)) 26 #[.int .i64 0, .slice none 0 0, .string .empty, .int .i64 0]).grown t1.2 (by intro h; injection h with h; simp at h; omega)
    simpa using h)
  have R1 := Lib.hid t1.1
  have G1 : Hid (w.grownBy w1 (some g)) := Lib.hid (only_trans (only_alloc (only_alloc (World.grownBy.refl w _) _) _) t1.2)
  have hz1 : w.heap.size + 1 < w1.heap.size := KA1.out.lt
  have fa := KA1.out.free 0
  have ca1 : w1.cell? ⟨w.heap.size + 1, 0, none⟩ = some (.int .i64 0) := KA1.out.cell 0
  have n1 : w.heap.size ≠ w.heap.size + 1 := by omega
  have n2 : g ≠ w.heap.size + 1 := by omega
  have n3 : g ≠ w.heap.size := by omega
  clear t1 HR
  have KA0 : Hid (Blk (w1.setCell ⟨w.heap.size + 1, 0, none⟩ (.int .i64 k)) (w.heap.size + 1) 26 #[.int .i64 k, .slice none 0 0, .string .empty, .int .i64 0]) := Lib.hid (KA1.out.set_ 0 (.int .i64 k))
  have KR0 := Lib.hid (KR1.out.far (p := ⟨w.heap.size + 1, 0, none⟩) n1 (.int .i64 k))
  have R0 := Lib.hid (R1.out.far (i := 0) KA1.out (by decide) n2 (.int .i64 k))
  have G0 := Lib.hid (only_setCell (p := ⟨w.heap.size + 1, 0, none⟩) G1.out (.inr (Nat.le_succ _)) (.int .i64 k))
  have hz0 : w.heap.size + 1 < (w1.setCell ⟨w.heap.size + 1, 0, none⟩ (.int .i64 k)).heap.size := KA0.out.lt
  have ca0 : (w1.setCell ⟨w.heap.size + 1, 0, none⟩ (.int .i64 k)).cell? ⟨w.heap.size + 1, 0, none⟩ = some (.int .i64 k) := KA0.out.cell 0
  have hk3 : k = 1 ∨ k = 3 ∨ (k ≠ 1 ∧ k ≠ 3) := by omega
  rcases hk3 with rfl | rfl | ⟨h1, h3⟩
  case' inl =>
    have E1 : Hid (Q = rGot zs (rNext zs s 1) 4) := Lib.hid (by have h := EQ.out; rwa [if_pos rfl] at h)
    have E2 : Hid (M = ByteArray.empty) := Lib.hid (by have h := EM.out; rwa [if_neg (by omega)] at h)
    have E3 : Hid (rNext zs (rNext zs s 1) 4 = raS2 zs s) := Lib.hid (by have h := ES.out; rw [if_pos rfl] at h; exact h.symm)
    go_wp2_with fail
    refine (take_any g v zs _ 4 _ R0.out (by omega)).mono ?_
    rintro e w2 ⟨q, rfl, o2, t2⟩
    rw [← E1.out] at o2
    rw [E3.out] at t2
    obtain ⟨A2, c2, rfl, _, _, _⟩ := o2.form
    have KA2 := Lib.hid (KA0.out.grown t2.2 (by intro h; injection h with h; omega))
    have fb := KA2.out.free 1
    have cb : w2.cell? ⟨w.heap.size + 1, 1, none⟩ = some (.slice none 0 0) := KA2.out.cell 1
    have KR := Lib.hid ((KR0.out.grown t2.2 (by intro h; injection h with h; omega)).far (p := ⟨w.heap.size + 1, 1, none⟩) n1 (.slice A2 Q.length c2))
    have KA : Hid (Blk (w2.setCell ⟨w.heap.size + 1, 1, none⟩ (.slice A2 Q.length c2)) (w.heap.size + 1) 26 #[.int .i64 1, .slice A2 Q.length c2, .string M, .int .i64 0]) := Lib.hid (by rw [E2.out]; exact KA2.out.set_ 1 _)
    have RV := Lib.hid (t2.1.far (i := 1) KA2.out (by decide) n2 (.slice A2 Q.length c2))
    have OV : Hid (Own (w2.setCell ⟨w.heap.size + 1, 1, none⟩ (.slice A2 Q.length c2)) (w.heap.size + 2) (.slice A2 Q.length c2) Q) := Lib.hid ((o2.more (by omega)).far (by omega) _)
    have GV := Lib.hid (only_setCell (p := ⟨w.heap.size + 1, 1, none⟩) (only_trans G0.out t2.2) (.inr (Nat.le_succ _)) (.slice A2 Q.length c2))
    clear o2 t2 KA2
    obtain ⟨VR, hVR⟩ : ∃ VR, VR = Value.agg #[.int .i64 1, .slice A2 Q.length c2, .string M, .int .i64 P] := ⟨_, rfl⟩
    have HVR := Lib.hid hVR
    clear hVR
    go_wp2_with fail
  case' inr.inl =>
    have E1 : Hid (Q = []) := Lib.hid (by have h := EQ.out; rwa [if_neg (by omega)] at h)
    have E2 : Hid (strOfNums (rText zs (rNext zs s 1)) = M) := Lib.hid (by have h := EM.out; rw [if_pos rfl] at h; exact h.symm)
    have E3 : Hid (rTextN zs (rNext zs s 1) = raS2 zs s) := Lib.hid (by have h := ES.out; rw [if_neg (by omega), if_pos rfl] at h; exact h.symm)
    go_wp2_with fail
    refine (text_any g v zs _ _ R0.out).mono ?_
    rintro e w2 ⟨rfl, t2⟩
    rw [E2.out]
    rw [E3.out] at t2
    have KA2 := Lib.hid (KA0.out.grown t2.2 (by intro h; injection h with h; omega))
    have fb := KA2.out.free 2
    have cb : w2.cell? ⟨w.heap.size + 1, 2, none⟩ = some (.string .empty) := KA2.out.cell 2
    have KR := Lib.hid ((KR0.out.grown t2.2 (by intro h; injection h with h; omega)).far (p := ⟨w.heap.size + 1, 2, none⟩) n1 (.string M))
    have KA : Hid (Blk (w2.setCell ⟨w.heap.size + 1, 2, none⟩ (.string M)) (w.heap.size + 1) 26 #[.int .i64 3, .slice none 0 0, .string M, .int .i64 0]) := Lib.hid (KA2.out.set_ 2 _)
    have RV := Lib.hid (t2.1.far (i := 2) KA2.out (by decide) n2 (.string M))
    have OV : Hid (Own (w2.setCell ⟨w.heap.size + 1, 2, none⟩ (.string M)) (w.heap.size + 2) (.slice none 0 0) Q) := Lib.hid (by rw [E1.out]; exact Own.nil_ _ _)
    have GV := Lib.hid (only_setCell (p := ⟨w.heap.size + 1, 2, none⟩) (only_trans G0.out t2.2) (.inr (Nat.le_succ _)) (.string M))
    clear t2 KA2
    obtain ⟨VR, hVR⟩ : ∃ VR, VR = Value.agg #[.int .i64 3, .slice none 0 0, .string M, .int .i64 P] := ⟨_, rfl⟩
    have HVR := Lib.hid hVR
    clear hVR
    go_wp2_with fail
  case' inr.inr =>
    have E1 : Hid (Q = []) := Lib.hid (by have h := EQ.out; rwa [if_neg h1] at h)
    have E2 : Hid (M = ByteArray.empty) := Lib.hid (by have h := EM.out; rwa [if_neg h3] at h)
    have E3 : Hid (rNext zs s 1 = raS2 zs s) := Lib.hid (by have h := ES.out; rw [if_neg h1, if_neg h3] at h; exact h.symm)
    have h1' : (k == 1) = false := by simpa using h1
    have h3' : (k == 3) = false := by simpa using h3
    have KR := KR0
    have KA : Hid (Blk (w1.setCell ⟨w.heap.size + 1, 0, none⟩ (.int .i64 k)) (w.heap.size + 1) 26 #[.int .i64 k, .slice none 0 0, .string M, .int .i64 0]) := Lib.hid (by rw [E2.out]; exact KA0.out)
    have RV : Hid (Rdr (w1.setCell ⟨w.heap.size + 1, 0, none⟩ (.int .i64 k)) g v zs (raS2 zs s)) := Lib.hid (by rw [← E3.out]; exact R0.out)
    have OV : Hid (Own (w1.setCell ⟨w.heap.size + 1, 0, none⟩ (.int .i64 k)) (w.heap.size + 2) (.slice none 0 0) Q) := Lib.hid (by rw [E1.out]; exact Own.nil_ _ _)
    have GV := G0
    obtain ⟨VR, hVR⟩ : ∃ VR, VR = Value.agg #[.int .i64 k, .slice none 0 0, .string M, .int .i64 P] := ⟨_, rfl⟩
    have HVR := Lib.hid hVR
    clear hVR
    go_wp2_with fail
  all_goals
    have hs4 := OV.out
    refine (rnumber_any g v zs _ _ RV.out).mono ?_
    rintro e w3 ⟨rfl, t3⟩
    rw [EP.out]
    have KR3 := Lib.hid (KR.out.grown t3.2 (by intro h; injection h with h; omega))
    have KA3 := Lib.hid (KA.out.grown t3.2 (by intro h; injection h with h; omega))
    have R3 := Lib.hid t3.1
    have O3 := Lib.hid (RV.out.own OV.out t3.2)
    have G3 := Lib.hid (only_trans GV.out t3.2)
    have d0 := KA3.out.cell 0
    have d1 := KA3.out.cell 1
    have d2 := KA3.out.cell 2
    have d3 := KA3.out.cell 3
    have fc := KA3.out.free 3
    simp only [List.getElem?_toArray, List.getElem?_cons_zero, List.getElem?_cons_succ] at d0 d1 d2 d3
    clear t3 hs4 KR KA RV OV GV KR0 KA0 R0 G0 KA1 KR1 R1 G1 ca0 fa
    go_wp2_with fail
    have KA4 := Lib.hid (KA3.out.set_ 3 (.int .i64 P))
    have KR4 := Lib.hid (KR3.out.far (p := ⟨w.heap.size + 1, 3, none⟩) n1 (.int .i64 P))
    have R4 := Lib.hid (R3.out.far (i := 3) KA3.out (by decide) n2 (.int .i64 P))
    have O4 := Lib.hid (O3.out.far (B := w.heap.size + 1) (i := 3) (by omega) (.int .i64 P))
    have G4 := Lib.hid (only_setCell (p := ⟨w.heap.size + 1, 3, none⟩) G3.out (.inr (Nat.le_succ _)) (.int .i64 P))
    refine (impl_AddressValid_any _ _ M P Q _ O4.out.ints.zero HM.out).mono ?_
    rintro e w5 ⟨rfl, b5⟩
    rw [EO.out]
    have KA5 := Lib.hid (KA4.out.kept b5)
    have KR5 := Lib.hid (KR4.out.kept b5)
    have R5 := Lib.hid (R4.out.below b5)
    have O5 := Lib.hid (O4.out.below b5)
    have G5 := Lib.hid (only_below G4.out (b5.mono G4.out.size))
    have a0 := KA5.out.cell 0
    have a1 := KA5.out.cell 1
    have a2 := KA5.out.cell 2
    have a3 := KA5.out.cell 3
    have r0 := KR5.out.cell 0
    have r1 := KR5.out.cell 1
    have r2 := KR5.out.cell 2
    have r3 := KR5.out.cell 3
    have f0 := KR5.out.free 0
    have f1 := KR5.out.free 1
    have f2 := KR5.out.free 2
    have f3 := KR5.out.free 3
    have fg := R5.out.free 2
    simp at a0 a1 a2 a3 r0 r1 r2 r3
    clear b5 KA4 KR4 R4 O4 G4 KA3 KR3 R3 O3 G3 d0 d1 d2 d3 fc
    cases ok
    · have E5 : Hid (raEnd zs s = ((rNext zs (raS2 zs s) 2).1, true)) := Lib.hid (by rw [EE.out]; simp)
      have RX := Lib.hid (R5.out.store2)
      have KX := Lib.hid (KR5.out.far (p := ⟨g, 2, none⟩) (show w.heap.size ≠ g by omega) (.bool true))
      have OX := Lib.hid (O5.out.far (B := g) (i := 2) (by omega) (.bool true))
      have GX := Lib.hid (only_setCell (p := ⟨g, 2, none⟩) G5.out (.inl rfl) (.bool true))
      have cg := R5.out.c2
      go_wp2_with fail
      refine bodyPost_ret (v := VR) (by rw [HVR.out]; simp [results, Tryd.results80, go_sem, r0, r1, r2, r3]) rfl ?_
      refine ⟨_, by rw [EV.out, HVR.out], by rw [EQ'.out]; exact (OX.out.st4 (by omega)).more (by omega), ?_, only_st4 GX.out (Nat.le_refl _)⟩
      rw [E5.out]
      exact RX.out.st4 KX.out (by decide) n3 _ _ _ _
    · have E5 : Hid (raEnd zs s = rNext zs (raS2 zs s) 2) := Lib.hid (by rw [EE.out]; simp)
      go_wp2_with fail
      refine bodyPost_ret (v := VR) (by rw [HVR.out]; simp [results, Tryd.results80, go_sem, r0, r1, r2, r3]) rfl ?_
      refine ⟨_, by rw [EV.out, HVR.out], by rw [EQ'.out]; exact (O5.out.st4 (by omega)).more (by omega), ?_, only_st4 G5.out (Nat.le_refl _)⟩
      rw [E5.out]
      exact R5.out.st4 KR5.out (by decide) n3 _ _ _ _
end Go.Proofs.YtolbkdcnmkmncaaDoor

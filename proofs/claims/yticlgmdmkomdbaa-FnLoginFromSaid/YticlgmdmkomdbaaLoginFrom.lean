/-
  LoginFrom of the program returns the plain function of the bytes. Conditions: the slice reads as a list of integers.
-/
import Derived.Test.YticlgmdmkomdbaaText
import Derived.Test.YticlgmdmkomdbaaLoginOk
import Derived.Test.YticlgmdmkomdbaaBlk
import Derived.Test.YticlgmdmkomdbaaFromLaw
import Derived.RegionTactic
import Derived.BigRegion
namespace Go.Proofs.Yticlgmdmkomdbaa
open Go.RowKit

def lfRU (zs : List Int) : ByteArray := if lfOk zs = true then strOfNums (lfU zs) else ByteArray.empty
def lfRW (zs : List Int) : ByteArray := if lfOk zs = true then strOfNums (lfW zs) else ByteArray.empty
def lfC (zs : List Int) : Int := if lfOk zs = true then (lfEnd zs : Int) else 0
def lfT (zs : List Int) : Value := .tuple #[.agg #[.string (lfRU zs), .string (lfRW zs)], .int .i64 (lfC zs), .bool (lfOk zs)]
theorem lf_not {zs : List Int} (h : lfOk zs = false) : lfT zs = .tuple #[.agg #[.string ByteArray.empty, .string ByteArray.empty], .int .i64 0, .bool false] := by simp [lfT, lfRU, lfRW, lfC, h]
theorem lf_yes {zs : List Int} (h : lfOk zs = true) : lfT zs = .tuple #[.agg #[.string (strOfNums (lfU zs)), .string (strOfNums (lfW zs))], .int .i64 (lfEnd zs : Int), .bool true] := by simp [lfT, lfRU, lfRW, lfC, h]
theorem Rdr.far {w : World} {g : Nat} {v : Value} {zs : List Int} {s : Nat × Bool} (h : Rdr w g v zs s) {b i : Nat} {e : TypeId} {cs : Array Value} (hb : Blk w b e cs) (he : 3 ≠ e) (hg : g ≠ b) (u : Value) : Rdr (w.setCell ⟨b, i, none⟩ u) g v zs s := by
  have hG : w.grownBy (w.setCell ⟨b, i, none⟩ u) (some b) := only_setCell (p := ⟨b, i, none⟩) (World.grownBy.refl w _) (.inl rfl) _
  exact ⟨(Below.heap_setCell w ⟨b, i, none⟩ u g hg).trans h.1, h.2.1.grown hG hb he, h.2.2⟩
theorem str_len {zs : List Int} {n : Nat} (h : zs.length ≤ n) : (strOfNums zs).size ≤ n := by rw [str_length]; exact h
theorem rText_len (zs : List Int) (s : Nat × Bool) (hf : RFit zs s) : (rText zs s).length ≤ 255 := by
  rw [rText, rGot_length]
  have := (rByte_range hf).2
  omega

set_option maxRecDepth 100000 in
set_option maxHeartbeats 4000000 in
theorem impl_LoginFrom_any (v : Value) (zs : List Int) (w : World) (hv : Ints w 0 v zs) :
    Calls Try.prog 59 #[v] w fun e w' => e = .returned (lfT zs) ∧ Below w.heap.size w w' := by
  have HV := Lib.hid hv
  clear hv
  go_enter Try.func59, Try.ntmps59
  go_wp2_with fail
  refine (newReader_any _ zs _ (HV.out.alloc _)).mono ?_
  rintro e w1 ⟨rfl, r1, b1⟩
  simp only [World.size_alloc] at r1 b1 ⊢
  have K1 := Lib.hid ((Blk.new w 31 #[.string .empty, .string .empty]).below b1 (Nat.lt_succ_self _))
  have R1 := Lib.hid r1
  have B1 : Hid (Below w.heap.size w w1) := Lib.hid (((Below.refl _ _).alloc (Nat.le_refl _) _).trans (b1.mono (Nat.le_succ _)))
  have z1 := r1.lt
  clear r1 b1
  go_wp2_with fail
  refine (expect_any _ _ _ zs [1] _ _ (R1.out.alloc _) (lit1 _ _) (by simp)).mono ?_
  rintro e w2 ⟨rfl, t2⟩
  have K2 := Lib.hid ((K1.out.alloc (.cells #[.int .i64 1] 3)).grown t2.2 (by intro h; injection h with h; omega))
  have R2 := Lib.hid t2.1
  have z2 := t2.2.size
  simp at z2
  have B2 := Lib.hid (below_only (B1.out.alloc (by omega) (.cells #[.int .i64 1] 3)) t2.2 (by simp; omega) (Nat.le_succ _))
  clear t2 R1 K1
  go_wp2_with fail
  refine (text_any _ _ zs _ _ (R2.out.alloc _)).mono ?_
  rintro e w3 ⟨rfl, t3⟩
  have K3 := Lib.hid ((K2.out.alloc (.cells #[.string .empty, .string .empty] 31)).grown t3.2 (by intro h; injection h with h; omega))
  have X3 := Lib.hid ((Blk.new w2 31 #[.string .empty, .string .empty]).grown t3.2 (by intro h; injection h with h; omega))
  have R3 := Lib.hid t3.1
  have z3 := t3.2.size
  simp at z3
  have B3 := Lib.hid (below_only (B2.out.alloc (by omega) (.cells #[.string .empty, .string .empty] 31)) t3.2 (by simp; omega) (Nat.le_succ _))
  have x0 : w3.cell? ⟨w2.heap.size, 0, none⟩ = some (.string .empty) := X3.out.cell 0
  have xf := X3.out.free 0
  have F1 := Lib.hid (rText_len zs (rTold zs (rStart zs) [1]) R2.out.fit)
  obtain ⟨U, hU⟩ : ∃ U, strOfNums (rText zs (rTold zs (rStart zs) [1])) = U := ⟨_, rfl⟩
  have EU : Hid (strOfNums (lfGU zs) = U) := Lib.hid (by rw [lfGU, lfS1, hU])
  have HUm : Hid (U.size ≤ maxLen) := Lib.hid (by rw [← hU]; unfold maxLen; exact Nat.le_trans (str_len F1.out) (by omega))
  rw [hU]
  clear t3 R2 K2 hU
  go_wp2_with fail
  refine (text_any _ _ zs _ _ (R3.out.far X3.out (by decide) (by omega) _)).mono ?_
  rintro e w4 ⟨rfl, t4⟩
  have K4 := Lib.hid ((K3.out.far (p := ⟨w2.heap.size, 0, none⟩) (show w.heap.size ≠ w2.heap.size by omega) (.string U)).grown t4.2 (by intro h; injection h with h; omega))
  have X4 := Lib.hid ((X3.out.set_ 0 (.string U)).grown t4.2 (by intro h; injection h with h; omega))
  have R4 := Lib.hid t4.1
  have z4 := t4.2.size
  have B4 := Lib.hid (below_only (B3.out.setCell (p := ⟨w2.heap.size, 0, none⟩) (show w.heap.size ≤ w2.heap.size by omega) (.string U)) t4.2 (by simp [World.setCell]; omega) (Nat.le_succ _))
  have x0' : w4.cell? ⟨w2.heap.size, 0, none⟩ = some (.string U) := X4.out.cell 0
  have x1' : w4.cell? ⟨w2.heap.size, 1, none⟩ = some (.string .empty) := X4.out.cell 1
  have xf1 := X4.out.free 1
  have F2 := Lib.hid (rText_len zs (rTextN zs (rTold zs (rStart zs) [1])) R3.out.fit)
  obtain ⟨V, hV⟩ : ∃ V, strOfNums (rText zs (rTextN zs (rTold zs (rStart zs) [1]))) = V := ⟨_, rfl⟩
  have EV : Hid (strOfNums (lfGW zs) = V) := Lib.hid (by rw [lfGW, lfS2, lfS1, hV])
  have HVm : Hid (V.size ≤ maxLen) := Lib.hid (by rw [← hV]; unfold maxLen; exact Nat.le_trans (str_len F2.out) (by omega))
  rw [hV]
  have c1 := t4.1.c1
  have c2 := t4.1.c2
  have ES : Hid (rTextN zs (rTextN zs (rTold zs (rStart zs) [1])) = lfS3 zs) := Lib.hid rfl
  rw [ES.out] at c1 c2
  have k0 : w4.cell? ⟨w.heap.size, 0, none⟩ = some (.string .empty) := K4.out.cell 0
  have k1 : w4.cell? ⟨w.heap.size, 1, none⟩ = some (.string .empty) := K4.out.cell 1
  have kf0 := K4.out.free 0
  have kf1 := K4.out.free 1
  have HK := Lib.hid (lf_ok zs)
  rw [EU.out, EV.out] at HK
  have n1 : w.heap.size ≠ w2.heap.size := by omega
  have n2 : w.heap.size + 1 ≠ w2.heap.size := by omega
  have n3 : w2.heap.size ≠ w.heap.size := by omega
  have n4 : w2.heap.size ≠ w.heap.size + 1 := by omega
  have HB5 := Lib.hid (B4.out.setCell (p := ⟨w2.heap.size, 1, none⟩) (show w.heap.size ≤ w2.heap.size by omega) (.string V))
  clear t4 R3 X3 K3 hV xf x0
  have XX := Lib.hid (X4.out.set_ 1 (.string V))
  have KK := Lib.hid (K4.out.far (p := ⟨w2.heap.size, 1, none⟩) n1 (.string V))
  have RR := Lib.hid (R4.out.far (i := 1) X4.out (by decide) n2 (.string V))
  cases hb : (lfS3 zs).2
  · rw [hb] at c2
    go_wp2_with fail
    refine (isLogin_any U V _ HUm.out HVm.out).mono ?_
    rintro e w5 ⟨rfl, b5⟩
    have K5 := KK.out.kept b5
    have q0 : w5.cell? ⟨w.heap.size, 0, none⟩ = some (.string .empty) := K5.cell 0
    have q1 : w5.cell? ⟨w.heap.size, 1, none⟩ = some (.string .empty) := K5.cell 1
    have qf0 := K5.free 0
    have qf1 := K5.free 1
    have B5 := Lib.hid (HB5.out.trans (b5.mono HB5.out.size))
    cases hok : loginOk U V
    · have E : Hid (lfOk zs = false) := Lib.hid (by rw [← HK.out, hok, Bool.and_false])
      clear hb hok b5 K5 k0 k1 kf0 kf1 x0' x1' xf1 c1 c2
      go_wp2_with fail
      refine bodyPost_ret (v := .tuple #[.agg #[.string .empty, .string .empty], .int .i64 0, .bool false]) (by simp [results, Try.results59, go_sem, q0, q1]; rfl) rfl ⟨by rw [lf_not E.out], ?_⟩
      exact (B5.out.setCell (p := ⟨w.heap.size, 0, none⟩) (Nat.le_refl _) _).setCell (p := ⟨w.heap.size, 1, none⟩) (Nat.le_refl _) _
    · have E : Hid (lfOk zs = true) := Lib.hid (by rw [← HK.out, hok, hb]; rfl)
      have hst := lf_state (zs := zs) (by have h := E.out; rw [lfOk, Bool.and_eq_true] at h; exact h.1)
      have X5 := XX.out.kept b5
      have R5 := RR.out.below b5
      have d1 := R5.c1
      have p0 : w5.cell? ⟨w2.heap.size, 0, none⟩ = some (.string U) := X5.cell 0
      have p1 : w5.cell? ⟨w2.heap.size, 1, none⟩ = some (.string V) := X5.cell 1
      have E1 : Hid ((lfS3 zs).1 = lfEnd zs) := Lib.hid (by rw [hst.1])
      have E2 : Hid (U = strOfNums (lfU zs)) := Lib.hid (by rw [← EU.out, hst.2.1])
      have E3 : Hid (V = strOfNums (lfW zs)) := Lib.hid (by rw [← EV.out, hst.2.2])
      rw [ES.out, E1.out] at d1
      obtain ⟨N, hN⟩ : ∃ N, lfEnd zs = N := ⟨_, rfl⟩
      have HN := Lib.hid hN
      rw [hN] at d1
      clear hb hok b5 K5 X5 R5 k0 k1 kf0 kf1 x0' x1' xf1 c1 c2 hst hN
      go_wp2_with fail
      go_region
      go_wp2_with fail
      refine bodyPost_ret (v := .tuple #[.agg #[.string U, .string V], .int .i64 (N : Int), .bool true]) (by simp [results, Try.results59, go_sem, q0, q1]) rfl ⟨by rw [lf_yes E.out, E2.out, E3.out, HN.out], ?_⟩
      exact ((B5.out.setCell (p := ⟨w.heap.size, 0, none⟩) (Nat.le_refl _) _).setCell (p := ⟨w.heap.size, 1, none⟩) (Nat.le_refl _) _).drew
  · rw [hb] at c2
    have E : Hid (lfOk zs = false) := Lib.hid (by rw [← HK.out, hb]; rfl)
    obtain ⟨p, hp⟩ : ∃ p, (lfS3 zs).1 = p := ⟨_, rfl⟩
    rw [hp] at c1
    clear hb hp
    go_wp2_with fail
    refine bodyPost_ret (v := .tuple #[.agg #[.string .empty, .string .empty], .int .i64 0, .bool false]) (by simp [results, Try.results59, go_sem, k0, k1]; rfl) rfl ⟨by rw [lf_not E.out], ?_⟩
    exact (HB5.out.setCell (p := ⟨w.heap.size, 0, none⟩) (Nat.le_refl _) _).setCell (p := ⟨w.heap.size, 1, none⟩) (Nat.le_refl _) _
end Go.Proofs.Yticlgmdmkomdbaa

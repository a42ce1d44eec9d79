/-
  ReplyBytes and RequestBytes of the program and of the reference return the same bytes, in memory of their own, or fail alike. Conditions: the quad reads as a list of integers, the name has fewer than 2^32 - 15 bytes.
  The reference's l12Bytes and ReplyBytes. Conditions: the quad reads as a list of integers, the name has fewer than 2^32 - 15 bytes.
-/
import Derived.Test.YtolbkdcnmkmncaaDoorAdBytes
import Derived.Test.YtolbkdcnmkmncaaDoorPk
namespace Go.Proofs.YtolbkdcnmkmncaaDoor
open Go.RowKit

def rpL (c k : Int) (qs : List Int) (nm : ByteArray) (p : Int) : List Int := if rpOk c k qs nm p = true then cdB c k qs nm p else []
def rqL (c k : Int) (qs : List Int) (nm : ByteArray) (p : Int) : List Int := if rqOk c k qs nm p = true then cdB c k qs nm p else []
theorem rpL_ok {c k : Int} {qs : List Int} {nm : ByteArray} {p : Int} (h : rpOk c k qs nm p = true) : rpL c k qs nm p = [5, c, 0] ++ adB k qs nm p := by simp [rpL, h, cdB]
theorem rpL_not {c k : Int} {qs : List Int} {nm : ByteArray} {p : Int} (h : rpOk c k qs nm p = false) : rpL c k qs nm p = [] := by simp [rpL, h]
theorem rqL_ok {c k : Int} {qs : List Int} {nm : ByteArray} {p : Int} (h : rqOk c k qs nm p = true) : rqL c k qs nm p = [5, c, 0] ++ adB k qs nm p := by simp [rqL, h, cdB]
theorem rqL_not {c k : Int} {qs : List Int} {nm : ByteArray} {p : Int} (h : rqOk c k qs nm p = false) : rqL c k qs nm p = [] := by simp [rqL, h]
theorem Own.lit_0 {W : World} {g base : Nat} (hg : g = W.heap.size) (hb : base ≤ W.heap.size) : Own (W.alloc (.cells #[] 3)) base (.slice (some ⟨g, 0, none⟩) 0 0) [] := by
  subst hg
  exact Own.lit W [] base hb (by simp)
theorem Own.lit_3 {W : World} {x y z : Int} {g base : Nat} (hg : g = W.heap.size) (hb : base ≤ W.heap.size) : Own (W.alloc (.cells #[.int .i64 x, .int .i64 y, .int .i64 z] 3)) base (.slice (some ⟨g, 0, none⟩) 3 3) [x, y, z] := by
  subst hg
  exact Own.lit W [x, y, z] base hb (by simp)

set_option maxRecDepth 100000 in
set_option maxHeartbeats 4000000 in
theorem impl_ReplyBytes_any (code k : Int) (q : Value) (nm : ByteArray) (p : Int) (qs : List Int) (w : World) (hq : Ints w 0 q qs) (hn : nm.size < 4294967281) :
    Calls Tryd.prog 19 #[.int .i64 code, .agg #[.int .i64 k, q, .string nm, .int .i64 p]] w fun e w' => Gave w (rpL code k qs nm p) (rpOk code k qs nm p) e w' := by
  have HQ := Lib.hid hq
  obtain ⟨A, c, rfl, hc, hm, _⟩ := hq.open_
  have B0 : Hid (∀ cs, Below w.heap.size w (w.alloc (.cells cs 26))) := Lib.hid fun cs => (Below.refl _ _).alloc (Nat.le_refl _) _
  have K0 := Lib.hid (Blk.new w 26 #[.int .i64 k, .slice A qs.length c, .string nm, .int .i64 p])
  clear hq
  cases hc1 : inR code 0 8
  · have HOK : Hid (rpOk code k qs nm p = false) := Lib.hid (by rw [rpOk, hc1]; rfl)
    have E := Lib.hid (rpL_not HOK.out)
    go_enter Tryd.func19, Tryd.ntmps19
    go_wp2_with (go_at_call 63; refine (within_any _ _ _ _).mono ?_; rintro e w' ⟨rfl, rfl⟩; rw [hc1])
    go_ret2
    exact ⟨_, by rw [HOK.out]; rfl, by rw [E.out]; exact Own.nil_ _ _, B0.out _⟩
  go_enter Tryd.func19, Tryd.ntmps19
  go_wp2_with (go_at_call 63; refine (within_any _ _ _ _).mono ?_; rintro e w' ⟨rfl, rfl⟩; rw [hc1])
  refine (impl_AddressValid_any k _ nm p qs _ (HQ.out.alloc _) hn).mono ?_
  rintro e w1 ⟨rfl, b1⟩
  have K1 := Lib.hid (K0.out.kept b1)
  have B1 := Lib.hid ((B0.out _).trans (b1.mono (by simp)))
  have I1 := Lib.hid ((HQ.out.alloc _).below b1)
  have a0 : w1.cell? ⟨w.heap.size, 0, none⟩ = some (.int .i64 k) := K1.out.cell 0
  have a1 : w1.cell? ⟨w.heap.size, 1, none⟩ = some (.slice A qs.length c) := K1.out.cell 1
  have a2 : w1.cell? ⟨w.heap.size, 2, none⟩ = some (.string nm) := K1.out.cell 2
  have a3 : w1.cell? ⟨w.heap.size, 3, none⟩ = some (.int .i64 p) := K1.out.cell 3
  have hs1 := B1.out.size
  clear b1
  cases hok : adOk k qs nm p
  · have HOK : Hid (rpOk code k qs nm p = false) := Lib.hid (by rw [rpOk, hok, Bool.and_false])
    have E := Lib.hid (rpL_not HOK.out)
    clear hok
    go_wp2_with fail
    go_ret2
    exact ⟨_, by rw [HOK.out]; rfl, by rw [E.out]; exact Own.nil_ _ _, B1.out⟩
  · have HOK : Hid (rpOk code k qs nm p = true) := Lib.hid (by rw [rpOk, hok, hc1]; rfl)
    have E := Lib.hid (rpL_ok HOK.out)
    have HA := Lib.hid hok
    have HLen := Lib.hid (adB_length hok)
    clear hok
    have c0 : (w1.alloc (.cells #[.int .i64 5, .int .i64 code, .int .i64 0] 3)).cell? ⟨w.heap.size, 0, none⟩ = some (.int .i64 k) := (K1.out.alloc _).cell 0
    have c1 : (w1.alloc (.cells #[.int .i64 5, .int .i64 code, .int .i64 0] 3)).cell? ⟨w.heap.size, 1, none⟩ = some (.slice A qs.length c) := (K1.out.alloc _).cell 1
    have c2 : (w1.alloc (.cells #[.int .i64 5, .int .i64 code, .int .i64 0] 3)).cell? ⟨w.heap.size, 2, none⟩ = some (.string nm) := (K1.out.alloc _).cell 2
    have c3 : (w1.alloc (.cells #[.int .i64 5, .int .i64 code, .int .i64 0] 3)).cell? ⟨w.heap.size, 3, none⟩ = some (.int .i64 p) := (K1.out.alloc _).cell 3
    go_wp2_with fail
    refine (addressBytes_any k _ nm p qs _ (I1.out.alloc _) HA.out).mono ?_
    rintro e w2 ⟨v2, rfl, o2, b2⟩
    have O2 := Lib.hid o2.ints.zero
    have OL : Hid (Own w2 w.heap.size (.slice (some ⟨w1.heap.size, 0, none⟩) 3 3) [5, code, 0]) := Lib.hid ((Own.lit_3 rfl hs1).below b2)
    have B2 := Lib.hid ((B1.out.alloc hs1 _).trans (b2.mono (by simp; omega)))
    have hs2 := B2.out.size
    have hl := HLen.out.2.1
    clear o2 b2
    go_wp2_with (at_builtin; refine wp_ints rfl (.tmp 15) (.tmp 17) rfl rfl rfl OL.out O2.out (by simp; omega) hs2 ?_; intro v3 w3 o3 b3 g3 k3)
    go_ret2
    exact ⟨_, by rw [HOK.out]; rfl, by rw [E.out]; exact o3, B2.out.trans b3⟩
end Go.Proofs.YtolbkdcnmkmncaaDoor
namespace Go.Proofs.YtolbkdcnmkmncaaDoor
open Go.RowKit

set_option maxRecDepth 100000 in
set_option maxHeartbeats 4000000 in
theorem l12Bytes_any (code k : Int) (q : Value) (nm : ByteArray) (p : Int) (qs : List Int) (w : World) (hq : Ints w 0 q qs) (hok : adOk k qs nm p = true) :
    Calls Tryd.prog 90 #[.int .i64 code, .agg #[.int .i64 k, q, .string nm, .int .i64 p]] w fun e w' => ∃ v, e = .returned v ∧ Own w' w.heap.size v ([5, code, 0] ++ adB k qs nm p) ∧ Below w.heap.size w w' := by
  have HQ := Lib.hid hq
  obtain ⟨A, c, rfl, hc, hm, _⟩ := hq.open_
  have B0 : Hid (∀ cs, Below w.heap.size w (w.alloc (.cells cs 26))) := Lib.hid fun cs => (Below.refl _ _).alloc (Nat.le_refl _) _
  have HA := Lib.hid hok
  have HLen := Lib.hid (adB_length hok)
  clear hq hok
  go_enter Tryd.func90, Tryd.ntmps90
  go_wp2_with fail
  refine (l3Bytes_any k _ nm p qs _ ((HQ.out.alloc _).alloc _) HA.out).mono ?_
  rintro e w2 ⟨v2, rfl, o2, b2⟩
  have O2 := Lib.hid o2.ints.zero
  have OL : Hid (Own w2 w.heap.size (.slice (some ⟨w.heap.size + 1, 0, none⟩) 3 3) [5, code, 0]) := Lib.hid ((Own.lit_3 (World.size_alloc _ _).symm (by simp)).below b2)
  have B2 := Lib.hid (((B0.out _).alloc (by simp) _).trans (b2.mono (by simp; omega)))
  have hs2 := B2.out.size
  have hl := HLen.out.2.1
  clear o2 b2
  go_wp2_with (at_builtin; refine wp_ints rfl (.tmp 6) (.tmp 8) rfl rfl rfl OL.out O2.out (by simp; omega) hs2 ?_; intro v3 w3 o3 b3 g3 k3)
  go_ret
  exact ⟨_, rfl, o3, B2.out.trans b3⟩

set_option maxRecDepth 100000 in
set_option maxHeartbeats 4000000 in
theorem spec_ReplyBytes_any (code k : Int) (q : Value) (nm : ByteArray) (p : Int) (qs : List Int) (w : World) (hq : Ints w 0 q qs) (hn : nm.size < 4294967281) :
    Calls Tryd.prog 57 #[.int .i64 code, .agg #[.int .i64 k, q, .string nm, .int .i64 p]] w fun e w' => Gave w (rpL code k qs nm p) (rpOk code k qs nm p) e w' := by
  have HQ := Lib.hid hq
  obtain ⟨A, c, rfl, hc, hm, _⟩ := hq.open_
  have B0 : Hid (∀ cs, Below w.heap.size w (w.alloc (.cells cs 26))) := Lib.hid fun cs => (Below.refl _ _).alloc (Nat.le_refl _) _
  have K0 := Lib.hid (Blk.new w 26 #[.int .i64 k, .slice A qs.length c, .string nm, .int .i64 p])
  clear hq
  cases hc1 : inR code 0 8
  · have HOK : Hid (rpOk code k qs nm p = false) := Lib.hid (by rw [rpOk, hc1]; rfl)
    have E := Lib.hid (rpL_not HOK.out)
    go_enter Tryd.func57, Tryd.ntmps57
    go_wp2_with (go_at_call 62; refine (l6In_any _ _ _ _).mono ?_; rintro e w' ⟨rfl, rfl⟩; rw [hc1])
    go_ret2
    exact ⟨_, by rw [HOK.out]; rfl, by rw [E.out]; exact Own.lit_0 (g := w.heap.size + 1) (World.size_alloc _ _).symm (by simp), (B0.out _).alloc (by simp) _⟩
  go_enter Tryd.func57, Tryd.ntmps57
  go_wp2_with (go_at_call 62; refine (l6In_any _ _ _ _).mono ?_; rintro e w' ⟨rfl, rfl⟩; rw [hc1])
  refine (spec_AddressValid_any k _ nm p qs _ (HQ.out.alloc _) hn).mono ?_
  rintro e w1 ⟨rfl, b1⟩
  have K1 := Lib.hid (K0.out.kept b1)
  have B1 := Lib.hid ((B0.out _).trans (b1.mono (by simp)))
  have I1 := Lib.hid ((HQ.out.alloc _).below b1)
  have a0 : w1.cell? ⟨w.heap.size, 0, none⟩ = some (.int .i64 k) := K1.out.cell 0
  have a1 : w1.cell? ⟨w.heap.size, 1, none⟩ = some (.slice A qs.length c) := K1.out.cell 1
  have a2 : w1.cell? ⟨w.heap.size, 2, none⟩ = some (.string nm) := K1.out.cell 2
  have a3 : w1.cell? ⟨w.heap.size, 3, none⟩ = some (.int .i64 p) := K1.out.cell 3
  have hs1 := B1.out.size
  clear b1
  cases hok : adOk k qs nm p
  · have HOK : Hid (rpOk code k qs nm p = false) := Lib.hid (by rw [rpOk, hok, Bool.and_false])
    have E := Lib.hid (rpL_not HOK.out)
    clear hok
    go_wp2_with fail
    go_ret2
    exact ⟨_, by rw [HOK.out]; rfl, by rw [E.out]; exact Own.lit w1 [] _ hs1 (by simp), B1.out.alloc hs1 _⟩
  · have HOK : Hid (rpOk code k qs nm p = true) := Lib.hid (by rw [rpOk, hok, hc1]; rfl)
    have E := Lib.hid (rpL_ok HOK.out)
    have HA := Lib.hid hok
    clear hok
    go_wp2_with fail
    refine (l12Bytes_any code k _ nm p qs _ I1.out HA.out).mono ?_
    rintro e w2 ⟨v2, rfl, o2, b2⟩
    have O2 := Lib.hid (o2.more hs1)
    have B2 := Lib.hid (B1.out.trans (b2.mono hs1))
    clear o2 b2
    go_wp2_with fail
    go_ret2
    exact ⟨_, by rw [HOK.out]; rfl, by rw [E.out]; exact O2.out, B2.out⟩
end Go.Proofs.YtolbkdcnmkmncaaDoor

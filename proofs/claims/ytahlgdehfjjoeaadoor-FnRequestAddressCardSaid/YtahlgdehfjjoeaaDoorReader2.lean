/-
  The program's reader of bytes, its byte and expect: plain functions of the bytes, the place and whether it has failed. Conditions: at most 1000 bytes are expected.
-/
import Derived.Test.YtahlgdehfjjoeaaDoorReader
namespace Go.Proofs.YtahlgdehfjjoeaaDoor
open Go.RowKit

theorem Took.rdr {w w' : World} {g : Nat} {v : Value} {zs : List Int} {s : Nat × Bool} (h : Took w g v zs s w') : Rdr w' g v zs s := h.1
theorem Took.trans {w w1 w2 : World} {g : Nat} {v : Value} {zs : List Int} {s t : Nat × Bool} (h : Took w g v zs s w1) (h2 : Took w1 g v zs t w2) : Took w g v zs t w2 := ⟨h2.1, only_trans h.2 h2.2⟩
theorem Took.below {w w1 w2 : World} {g : Nat} {v : Value} {zs : List Int} {s : Nat × Bool} (h : Took w g v zs s w1) (hb : Below w1.heap.size w1 w2) : Took w g v zs s w2 := ⟨h.1.below hb, only_below h.2 (hb.mono h.2.size)⟩

set_option maxHeartbeats 400000 in
theorem byte_any (g : Nat) (v : Value) (zs : List Int) (s : Nat × Bool) (w : World) (hr : Rdr w g v zs s) :
    Calls Tryd.prog 81 #[.pointer (some ⟨g, 0, none⟩)] w fun e w' => e = .returned (.int .i64 (rByte zs s)) ∧ Took w g v zs (rNext zs s 1) w' := by
  have HR := Lib.hid hr
  obtain ⟨x, hx⟩ : ∃ x, rGot zs s 1 = [x] := List.length_eq_one_iff.1 (rGot_length zs s 1)
  have HB : Hid (rByte zs s = x) := Lib.hid (by rw [rByte, hx]; rfl)
  have HX := Lib.hid hx
  clear hr hx
  go_enter Tryd.func81, Tryd.ntmps81
  go_wp2_with fail
  refine (take_any g v zs s 1 _ HR.out (by omega)).mono ?_
  rintro e w1 ⟨u, rfl, o1, t1⟩
  rw [HX.out] at o1
  obtain ⟨b, c, rfl, cc, hc1, hc2, _, _⟩ := o1.one
  have HT := Lib.hid t1
  clear t1 o1
  go_wp2_with fail
  go_ret
  exact ⟨ret_int HB.out.symm, HT.out⟩

set_option maxHeartbeats 400000 in
theorem expect_any (g : Nat) (v u : Value) (zs bs : List Int) (s : Nat × Bool) (w : World) (hr : Rdr w g v zs s) (hu : Ints w 0 u bs) (hn : bs.length ≤ 1000) :
    Calls Tryd.prog 80 #[.pointer (some ⟨g, 0, none⟩), u] w fun e w' => e = .returned (.tuple #[]) ∧ Took w g v zs (rTold zs s bs) w' := by
  have HR := Lib.hid hr
  have HU := Lib.hid hu
  obtain ⟨A, c, rfl, hc, hm, _⟩ := hu.open_
  clear hr hu
  go_enter Tryd.func80, Tryd.ntmps80
  go_wp2_with fail
  refine (take_any g v zs s bs.length _ HR.out hn).mono ?_
  rintro e w1 ⟨u1, rfl, o1, t1⟩
  have HT := Lib.hid t1
  have HO := Lib.hid o1
  clear t1 o1
  go_wp2_with fail
  refine (Equal_any _ _ (rGot zs s bs.length) bs _ HO.out.ints.zero (HR.out.ints HU.out HT.out.2)).mono ?_
  rintro e w2 ⟨rfl, n2, rfl⟩
  cases hb : decide (rGot zs s bs.length = bs)
  · have f2 := HT.out.1.free 2
    have c2 := HT.out.1.c2
    have HE : Hid (rTold zs s bs = ((rNext zs s bs.length).1, true)) := Lib.hid (by rw [rTold, hb]; simp)
    clear hb
    go_wp2_with fail
    go_end0
    refine ⟨rfl, ?_⟩
    rw [HE.out]
    exact ⟨(HT.out.1.drewN n2).store2, only_setCell (p := ⟨g, 2, none⟩) (only_drewN HT.out.2 n2) (.inl rfl) _⟩
  · have HE : Hid (rTold zs s bs = rNext zs s bs.length) := Lib.hid (by rw [rTold, hb]; simp)
    clear hb
    go_wp2_with fail
    go_end0
    refine ⟨rfl, ?_⟩
    rw [HE.out]
    exact ⟨HT.out.1.drewN n2, only_drewN HT.out.2 n2⟩
end Go.Proofs.YtahlgdehfjjoeaaDoor

/-
  The program's reader at one told byte and at a text: plain laws, no walk. Conditions: none.
  The program's reader of bytes, its byte and expect: plain functions of the bytes, the place and whether it has failed. Conditions: at most 1000 bytes are expected.
  The program's reader reads a text: a plain function of the bytes and the place. Conditions: none.
  The program's reader beside stores into other blocks; the length of a text that it reads. Conditions: none.
-/
import Derived.Test.YtolbkdcnmkmncaaDoorStr
import Derived.Test.YtolbkdcnmkmncaaDoorReader
import Derived.Test.YtolbkdcnmkmncaaDoorTexts
import Derived.Test.YtolbkdcnmkmncaaDoorBlk
namespace Go.Proofs.YtolbkdcnmkmncaaDoor
open Go.RowKit

theorem drop0_take1 {zs : List Int} (h : 1 ≤ zs.length) : (zs.drop 0).take 1 = [zs.getD 0 0] := by
  cases zs with
  | nil => simp at h
  | cons x r => simp
/-- The reader behind its first byte. -/
theorem told1 {zs : List Int} (c : Int) (hv : validL zs = true) (hl : 1 ≤ zs.length) (h0 : zs.getD 0 0 = c) : rTold zs (rStart zs) [c] = (1, false) := by
  have hs : rStart zs = (0, false) := by simp [rStart, hv]
  rw [hs]
  exact rTold_good (by simpa using hl) (by rw [List.length_singleton, drop0_take1 hl, h0])
theorem told1_not {zs : List Int} (c : Int) (h : (validL zs && decide (1 ≤ zs.length) && decide (zs.getD 0 0 = c)) = false) : (rTold zs (rStart zs) [c]).2 = true := by
  cases hv : validL zs
  · have hs : rStart zs = (0, true) := by simp [rStart, hv]
    rw [hs, rTold_bad]
  · have hs : rStart zs = (0, false) := by simp [rStart, hv]
    rw [hs]
    by_cases hl : 1 ≤ zs.length
    · rw [rTold_other (by simpa using hl) (by
        rw [List.length_singleton, drop0_take1 hl]
        intro he
        injection he with he
        rw [hv, he] at h
        simp [hl] at h)]
    · rw [rTold_long (by rw [List.length_singleton]; omega)]
theorem pair_eta (s : Nat × Bool) : s = (s.1, s.2) := rfl
theorem rNext_after_bad {zs : List Int} {s : Nat × Bool} (h : s.2 = true) (n : Nat) : (rNext zs s n).2 = true := by
  obtain ⟨p, b⟩ := s
  simp only at h
  subst h
  rw [rNext_bad]
def rTextN (zs : List Int) (s : Nat × Bool) : Nat × Bool := rNext zs (rNext zs s 1) (rByte zs s).toNat
def rText (zs : List Int) (s : Nat × Bool) : List Int := rGot zs (rNext zs s 1) (rByte zs s).toNat
theorem rTextN_bad {zs : List Int} {s : Nat × Bool} (h : s.2 = true) : (rTextN zs s).2 = true := rNext_after_bad (rNext_after_bad h _) _
theorem rTextN_good {zs : List Int} {p : Nat} (h : p + 1 + (zs.getD p 0).toNat ≤ zs.length) : rTextN zs (p, false) = (p + 1 + (zs.getD p 0).toNat, false) ∧ rText zs (p, false) = (zs.drop (p + 1)).take (zs.getD p 0).toNat := by
  have h1 : p + 1 ≤ zs.length := by omega
  constructor
  · rw [rTextN, rNext_good h1, rByte_good h1, rNext_good h]
  · rw [rText, rNext_good h1, rByte_good h1, rGot_good h]
theorem rTextN_long {zs : List Int} {p : Nat} (h : zs.length < p + 1 + (zs.getD p 0).toNat) : (rTextN zs (p, false)).2 = true := by
  by_cases h1 : p + 1 ≤ zs.length
  · rw [rTextN, rNext_good h1, rByte_good h1, rNext_long h]
  · exact rNext_after_bad (by rw [rNext_long (by omega)]) _
end Go.Proofs.YtolbkdcnmkmncaaDoor
namespace Go.Proofs.YtolbkdcnmkmncaaDoor
open Go.RowKit

theorem Took.rdr {w w' : World} {g : Nat} {v : Value} {zs : List Int} {s : Nat × Bool} (h : Took w g v zs s w') : Rdr w' g v zs s := h.1
theorem Took.trans {w w1 w2 : World} {g : Nat} {v : Value} {zs : List Int} {s t : Nat × Bool} (h : Took w g v zs s w1) (h2 : Took w1 g v zs t w2) : Took w g v zs t w2 := ⟨h2.1, only_trans h.2 h2.2⟩
theorem Took.below {w w1 w2 : World} {g : Nat} {v : Value} {zs : List Int} {s : Nat × Bool} (h : Took w g v zs s w1) (hb : Below w1.heap.size w1 w2) : Took w g v zs s w2 := ⟨h.1.below hb, only_below h.2 (hb.mono h.2.size)⟩

set_option maxHeartbeats 400000 in
theorem byte_any (g : Nat) (v : Value) (zs : List Int) (s : Nat × Bool) (w : World) (hr : Rdr w g v zs s) :
    Calls Tryd.prog 79 #[.pointer (some ⟨g, 0, none⟩)] w fun e w' => e = .returned (.int .i64 (rByte zs s)) ∧ Took w g v zs (rNext zs s 1) w' := by
  have HR := Lib.hid hr
  obtain ⟨x, hx⟩ : ∃ x, rGot zs s 1 = [x] := List.length_eq_one_iff.1 (rGot_length zs s 1)
  have HB : Hid (rByte zs s = x) := Lib.hid (by rw [rByte, hx]; rfl)
  have HX := Lib.hid hx
  clear hr hx
  go_enter Tryd.func79, Tryd.ntmps79
  go_wp2_with fail
  refine (take_any g v zs s 1 _ HR.out (by omega)).mono ?_
  rintro e w1 ⟨u, rfl, o1, t1⟩
  rw [HX.out] at o1
  obtain ⟨b, c, rfl, cc, hc1, hc2, _, _⟩ := o1.one
  have HT := Lib.hid t1
  clear t1 o1
  go_wp2_with fail
  go_ret
  exact ⟨ret_int HB.out.symm, HT.out⟩

set_option maxHeartbeats 400000 in
theorem expect_any (g : Nat) (v u : Value) (zs bs : List Int) (s : Nat × Bool) (w : World) (hr : Rdr w g v zs s) (hu : Ints w 0 u bs) (hn : bs.length ≤ 1000) :
    Calls Tryd.prog 78 #[.pointer (some ⟨g, 0, none⟩), u] w fun e w' => e = .returned (.tuple #[]) ∧ Took w g v zs (rTold zs s bs) w' := by
  have HR := Lib.hid hr
  have HU := Lib.hid hu
  obtain ⟨A, c, rfl, hc, hm, _⟩ := hu.open_
  clear hr hu
  go_enter Tryd.func78, Tryd.ntmps78
  go_wp2_with fail
  refine (take_any g v zs s bs.length _ HR.out hn).mono ?_
  rintro e w1 ⟨u1, rfl, o1, t1⟩
  have HT := Lib.hid t1
  have HO := Lib.hid o1
  clear t1 o1
  go_wp2_with fail
  refine (Equal_any _ _ (rGot zs s bs.length) bs _ HO.out.ints.zero (HR.out.ints HU.out HT.out.2)).mono ?_
  rintro e w2 ⟨rfl, n2, rfl⟩
  cases hb : decide (rGot zs s bs.length = bs)
  · have f2 := HT.out.1.free 2
    have c2 := HT.out.1.c2
    have HE : Hid (rTold zs s bs = ((rNext zs s bs.length).1, true)) := Lib.hid (by rw [rTold, hb]; simp)
    clear hb
    go_wp2_with fail
    go_end0
    refine ⟨rfl, ?_⟩
    rw [HE.out]
    exact ⟨(HT.out.1.drewN n2).store2, only_setCell (p := ⟨g, 2, none⟩) (only_drewN HT.out.2 n2) (.inl rfl) _⟩
  · have HE : Hid (rTold zs s bs = rNext zs s bs.length) := Lib.hid (by rw [rTold, hb]; simp)
    clear hb
    go_wp2_with fail
    go_end0
    refine ⟨rfl, ?_⟩
    rw [HE.out]
    exact ⟨HT.out.1.drewN n2, only_drewN HT.out.2 n2⟩
end Go.Proofs.YtolbkdcnmkmncaaDoor
namespace Go.Proofs.YtolbkdcnmkmncaaDoor
open Go.RowKit

set_option maxHeartbeats 400000 in
theorem text_any (g : Nat) (v : Value) (zs : List Int) (s : Nat × Bool) (w : World) (hr : Rdr w g v zs s) :
    Calls Tryd.prog 106 #[.pointer (some ⟨g, 0, none⟩)] w fun e w' => e = .returned (.string (strOfNums (rText zs s))) ∧ Took w g v zs (rTextN zs s) w' := by
  have HR := Lib.hid hr
  have hN := rByte_range hr.fit
  obtain ⟨n, hn⟩ : ∃ n : Nat, rByte zs s = (n : Int) := ⟨_, (Int.toNat_of_nonneg hN.1).symm⟩
  have EG : Hid (rText zs s = rGot zs (rNext zs s 1) n) := Lib.hid (by rw [rText, hn, Int.toNat_natCast])
  have EE : Hid (rTextN zs s = rNext zs (rNext zs s 1) n) := Lib.hid (by rw [rTextN, hn, Int.toNat_natCast])
  have HN := Lib.hid hn
  rw [hn] at hN
  clear hr hn
  go_enter Tryd.func106, Tryd.ntmps106
  go_wp2_with fail
  refine (byte_any g v zs s _ HR.out).mono ?_
  rintro e w1 ⟨rfl, t1⟩
  rw [HN.out]
  have T1 := Lib.hid t1
  clear t1
  go_wp2_with fail
  refine (take_any g v zs _ n _ T1.out.1 (by omega)).mono ?_
  rintro e w2 ⟨u, rfl, o2, t2⟩
  have T2 := Lib.hid t2
  have O2 := Lib.hid o2
  clear t2 o2
  go_wp2_with fail
  refine (bytesText_any _ _ _ O2.out.ints.zero (rGot_bytes T1.out.1.fit n) (by rw [rGot_length]; omega)).mono ?_
  rintro e w3 ⟨rfl, b3⟩
  have B3 := Lib.hid b3
  clear b3
  go_wp2_with fail
  go_ret
  rw [EG.out, EE.out]
  exact ⟨rfl, (T1.out.trans T2.out).below B3.out⟩
end Go.Proofs.YtolbkdcnmkmncaaDoor
namespace Go.Proofs.YtolbkdcnmkmncaaDoor
open Go.RowKit

theorem Rdr.far {w : World} {g : Nat} {v : Value} {zs : List Int} {s : Nat × Bool} (h : Rdr w g v zs s) {b i : Nat} {e : TypeId} {cs : Array Value} (hb : Blk w b e cs) (he : 3 ≠ e) (hg : g ≠ b) (u : Value) : Rdr (w.setCell ⟨b, i, none⟩ u) g v zs s := by
  have hG : w.grownBy (w.setCell ⟨b, i, none⟩ u) (some b) := only_setCell (p := ⟨b, i, none⟩) (World.grownBy.refl w _) (.inl rfl) _
  exact ⟨(Below.heap_setCell w ⟨b, i, none⟩ u g hg).trans h.1, h.2.1.grown hG hb he, h.2.2⟩
theorem str_len {zs : List Int} {n : Nat} (h : zs.length ≤ n) : (strOfNums zs).size ≤ n := by rw [str_length]; exact h
theorem rText_len (zs : List Int) (s : Nat × Bool) (hf : RFit zs s) : (rText zs s).length ≤ 255 := by
  rw [rText, rGot_length]
  have := (rByte_range hf).2
  omega
end Go.Proofs.YtolbkdcnmkmncaaDoor

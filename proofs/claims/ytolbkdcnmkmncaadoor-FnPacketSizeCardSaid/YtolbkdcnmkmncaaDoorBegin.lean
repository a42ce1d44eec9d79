/-
  The laws' own isBegin: whether bytes begin with other ones. Conditions: both slices read as lists of integers.
-/
import Derived.Test.YtolbkdcnmkmncaaDoorSame
namespace Go.Proofs.YtolbkdcnmkmncaaDoor
open Go.RowKit

def beginL (a b : List Int) : Bool := decide (b.length ≤ a.length) && decide (a.take b.length = b)
set_option maxHeartbeats 400000 in
theorem isBegin_any (v u : Value) (a b : List Int) (w : World) (hv : Ints w 0 v a) (hu : Ints w 0 u b) :
    Calls Tryd.prog 20 #[v, u] w fun e w' => e = .returned (.bool (beginL a b)) ∧ ∃ n, w' = w.drewN n := by
  have HU := Lib.hid hu
  obtain ⟨A, c, rfl, hc, hm, hA⟩ := hv.open_
  obtain ⟨B, d, rfl, hd, hn, _⟩ := hu.open_
  clear hu
  by_cases hl : b.length ≤ a.length
  · have hli : (b.length : Int) ≤ (a.length : Int) := by omega
    have hlc : (b.length : Int) ≤ (c : Int) := by omega
    have HI : Hid (Ints w 0 (.slice A b.length c) (a.take b.length)) := Lib.hid (by
      rcases hA with h0 | ⟨p, o, rfl, _, _, hs⟩
      · have hb : b = [] := List.eq_nil_of_length_eq_zero (by rw [h0] at hl; simp at hl; rw [hl]; rfl)
        rw [hb]
        exact Ints.none_ w 0 A c hm
      · exact Ints.front hs hl (by omega) hm)
    have E : Hid (beginL a b = decide (a.take b.length = b)) := Lib.hid (by rw [beginL, decide_eq_true hl]; rfl)
    clear hv hA hl
    go_enter Tryd.func20, Tryd.ntmps20
    go_wp2_with fail
    refine (sameBytes_any _ _ (a.take b.length) b _ HI.out HU.out).mono ?_
    rintro e w' ⟨rfl, n, rfl⟩
    go_wp2_with fail
    go_ret
    exact ⟨ret_bool E.out.symm, n, rfl⟩
  · have hli : (a.length : Int) < (b.length : Int) := by omega
    have E : Hid (beginL a b = false) := Lib.hid (by rw [beginL, decide_eq_false hl]; rfl)
    clear hv hA hl
    go_enter Tryd.func20, Tryd.ntmps20
    go_wp2_with fail
    go_ret
    exact ⟨ret_bool E.out.symm, 0, rfl⟩
end Go.Proofs.YtolbkdcnmkmncaaDoor

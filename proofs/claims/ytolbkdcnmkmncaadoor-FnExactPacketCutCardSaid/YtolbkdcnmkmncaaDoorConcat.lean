/-
  The library's slices.Grow at nil and slices.Concat at integers: one list out of several, in memory of the call's own. Conditions: the lists together have at most 2^40 numbers.
-/
import Derived.Test.YtolbkdcnmkmncaaDoorReader
import Derived.Lib.AppendZerosOnto
import Derived.Lib.SliceRun
namespace Go.Proofs.YtolbkdcnmkmncaaDoor
open Go.RowKit

set_option maxHeartbeats 1000000 in
theorem Grow_any (n : Nat) (w : World) (hn : n ≤ 1099511627776) :
    Calls Tryd.prog 99 #[.slice none 0 0, .int .i64 (n : Int)] w fun e w' => ∃ v, e = .returned v ∧ Own w' w.heap.size v [] ∧ Below w.heap.size w w' := by
  rcases Nat.eq_zero_or_pos n with rfl | hpos
  · go_enter Tryd.func99, Tryd.ntmps99
    go_wp2
    go_ret
    exact ⟨_, rfl, Own.nil_ _ _, Below.refl _ _⟩
  · obtain ⟨i0, hi, hz0, hz1, hz2⟩ := info_parts int_info
    have hrz := fun ty => Lib.run_append_nil_zeros (P := Tryd.prog) w 23 3 ty 3 i0 (.int .i64 0) .i64 .i64 Tryd.underlying23 Tryd.underlying3 hi hz0 n hpos (by rw [hz1]; omega) (by omega) (by rw [hz2]; omega)
    have hge := grownCap_ge w n 0 3
    have hle := grownCap_le_maxLen w n 0 3 (by unfold maxLen; omega)
    unfold maxLen at hle
    have hsz : (Builtin.zeroCells (Value.int .i64 0).cells n ++ Builtin.zeroCells (Value.int .i64 0).cells (grownCap w n 0 3 - n)).size = grownCap w n 0 3 := by
      rw [Array.size_append, size_zeroCells, size_zeroCells]
      show n * 1 + (grownCap w n 0 3 - n) * 1 = _
      omega
    obtain ⟨G, hG⟩ : ∃ G, grownCap w n 0 3 = G := ⟨_, rfl⟩
    rw [hG] at hrz hge hle hsz
    obtain ⟨cs, hcs⟩ : ∃ cs, Builtin.zeroCells (Value.int .i64 0).cells n ++ Builtin.zeroCells (Value.int .i64 0).cells (G - n) = cs := ⟨_, rfl⟩
    rw [hcs] at hrz hsz
    have HZ := Lib.hid hsz
    have HR := Lib.hid hrz
    clear hG hcs hz0 hz1 hz2 hi hsz hrz
    go_enter Tryd.func99, Tryd.ntmps99
    go_wp2_with (at_builtin; refine Lib.wpList_append_run _ rfl _ _ _ _ rfl _ _ rfl rfl _ _ (HR.out _) ?_)
    go_ret
    refine ⟨_, rfl, ⟨rfl, .inr ⟨w.heap.size, G, cs, rfl, Nat.le_refl _, heap_alloc_new w _, Nat.zero_le _, by unfold maxLen; omega, by rw [HZ.out]; omega, rfl⟩⟩, ?_⟩
    have h := below_drewN ((Below.refl w.heap.size w).alloc (Nat.le_refl _) (.cells cs 3)) 1
    exact h

/-- A slice of slices of integers. -/
def Rows2 (w : World) (v : Value) (zss : List (List Int)) : Prop :=
  ∃ vs : List Value, Sl w 23 1 0 v zss.length vs ∧ ∀ j, j < zss.length → ∃ u, vs[j]? = some u ∧ Ints w 0 u (zss.getD j [])
theorem flat_succ {zss : List (List Int)} {k : Nat} (h : k < zss.length) : (zss.take (k + 1)).flatten = (zss.take k).flatten ++ zss.getD k [] := by
  rw [List.take_succ_eq_append_getElem h, List.flatten_append]
  simp [List.getD, h]
theorem flat_le (zss : List (List Int)) (k : Nat) : (zss.take k).flatten.length ≤ zss.flatten.length := by
  have h : zss.flatten = (zss.take k).flatten ++ (zss.drop k).flatten := by rw [← List.flatten_append, List.take_append_drop]
  rw [h, List.length_append]
  omega

/-- How many numbers the first k lists have together. -/
def flatN (zss : List (List Int)) (k : Nat) : Nat := (zss.take k).flatten.length
theorem flatN_succ {zss : List (List Int)} {k : Nat} (h : k < zss.length) : flatN zss (k + 1) = flatN zss k + (zss.getD k []).length := by
  unfold flatN
  rw [flat_succ h, List.length_append]
theorem flatN_le (zss : List (List Int)) (k : Nat) : flatN zss k ≤ zss.flatten.length := flat_le zss k

set_option maxHeartbeats 1000000 in
theorem Concat_any (v : Value) (zss : List (List Int)) (w : World) (hv : Rows2 w v zss) (hl : zss.flatten.length ≤ 1099511627776) :
    Calls Tryd.prog 71 #[v] w fun e w' => ∃ u, e = .returned u ∧ Own w' w.heap.size u zss.flatten ∧ Below w.heap.size w w' := by
  obtain ⟨vs, ⟨hvl, A, c, rfl, hc, hm, hA⟩, hi⟩ := hv
  unfold maxLen at hm
  obtain ⟨n, hn⟩ : ∃ n, zss.length = n := ⟨_, rfl⟩
  rw [hn] at hvl hc ⊢
  have HN := Lib.hid hn
  have HI := Lib.hid hi
  have HVL := Lib.hid hvl
  have HL := Lib.hid hl
  clear hn hi hvl hl
  have HA := Lib.hid hA
  clear hA
  go_enter Tryd.func71, Tryd.ntmps71
  go_wp2_with fail
  go_loop [3, 11] (fun s i => ∃ k : Nat, k ≤ n ∧ i = .int .i64 k ∧ s = .int .i64 (flatN zss k : Int)) (fun _ i => n - (intOf i).toNat)
  case atStart => exact ⟨0, Nat.zero_le _, rfl, rfl⟩
  case round =>
    obtain ⟨k, hk, rfl, rfl⟩ := hrel
    by_cases hlt : k < n
    · obtain ⟨u, hu, hui⟩ := HI.out k (by rw [HN.out]; exact hlt)
      obtain ⟨b, o, rfl, _, hs⟩ := HA.out.resolve_left (fun h => by rw [h] at hu; simp at hu)
      have c1 := hs.cell hu
      obtain ⟨A', c', rfl, _, _, _⟩ := hui.open_
      have hki : (k : Int) < (n : Int) := by omega
      have hf := flatN_succ (zss := zss) (k := k) (by rw [HN.out]; exact hlt)
      have hle := flatN_le zss (k + 1)
      have hl := HL.out
      rw [hf] at hle
      obtain ⟨a, ha⟩ : ∃ a, flatN zss k = a := ⟨_, rfl⟩
      obtain ⟨d, hd⟩ : ∃ d, (zss.getD k []).length = d := ⟨_, rfl⟩
      have HF : Hid (flatN zss (k + 1) = a + d) := Lib.hid (by rw [hf, ha, hd])
      rw [ha, hd] at hle
      rw [ha]
      rw [hd] at c1
      have hb1 : (a : Int) + (d : Int) ≤ 1099511627776 := by omega
      clear hf ha hd hs hu hui hle hl
      go_wp2_with fail
      go_round
      case rel => exact ⟨k + 1, by omega, by go_num, by rw [HF.out]; go_num⟩
      case measure => simp [intOf]; omega
    · have hkn : k = n := by omega
      subst hkn
      have HT : Hid (zss.take k = zss) := Lib.hid (List.take_of_length_le (by rw [HN.out]; omega))
      have HG := HL.out
      have hT : flatN zss k = zss.flatten.length := by rw [flatN, HT.out]
      rw [← hT] at HG
      obtain ⟨T, hTT⟩ : ∃ T, flatN zss k = T := ⟨_, rfl⟩
      rw [hTT] at HG ⊢
      clear hT hTT
      go_wp2_with fail
      refine (Grow_any T _ HG).mono ?_
      rintro e w1 ⟨v1, rfl, o1, b1⟩
      have O1 := Lib.hid o1
      have B1 := Lib.hid b1
      clear o1 b1
      go_wp2_with fail
      go_loopw [6, 27] (fun s i wr => ∃ j : Nat, j ≤ k ∧ i = .int .i64 j ∧ Hid (Own wr w.heap.size s (zss.take j).flatten) ∧ Hid (Below w.heap.size w wr)) (fun _ i _ => k - (intOf i).toNat)
      case atStart => exact ⟨0, Nat.zero_le _, rfl, O1, B1⟩
      case round =>
        obtain ⟨j, hj, rfl, HO, HB⟩ := hrel
        by_cases hlt : j < k
        · obtain ⟨u, hu, hui⟩ := HI.out j (by rw [HN.out]; exact hlt)
          obtain ⟨b, o, rfl, _, hs⟩ := HA.out.resolve_left (fun h => by rw [h] at hu; simp at hu)
          have c1 := (hs.below HB.out hs.lt).cell hu
          have HU := Lib.hid (hui.below HB.out)
          have hji : (j : Int) < (k : Int) := by omega
          have hf := flat_succ (zss := zss) (k := j) (by rw [HN.out]; exact hlt)
          have HF := Lib.hid hf
          have hle := flat_le zss (j + 1)
          rw [hf, List.length_append] at hle
          have hl := HL.out
          have hsz := HB.out.size
          clear hf hs hu hui
          go_wp2_with (at_builtin; refine wp_ints rfl (.tmp 31) (.tmp 32) rfl rfl rfl HO.out HU.out (by omega) hsz ?_; intro v2 w2 o2 b2 g2 k2)
          go_roundw
          case rel => exact ⟨j + 1, by omega, by go_num, by rw [HF.out]; exact Lib.hid o2, Lib.hid (HB.out.trans b2)⟩
          case measure => simp [intOf]; omega
        · have hjk : j = k := by omega
          subst hjk
          go_wp2_with fail
          go_ret
          exact ⟨_, rfl, by have h := HO.out; rwa [HT.out] at h, HB.out⟩
end Go.Proofs.YtolbkdcnmkmncaaDoor

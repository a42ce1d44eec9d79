/-
  The exact laws' own helpers that write marks into a slice of integers and look for them again (markIntS, heldIntS), and the copy of an argument (toIntS). Conditions: lengths and marks below 2^40.
-/
import Derived.Test.YtpcflkdeoafpeaaDoorAppend
import Derived.Laws.MakeOwn
namespace Go.Proofs.YtpcflkdeoafpeaaDoor
open Go.RowKit

theorem Seg.set_ {w : World} {e : TypeId} {b o j : Nat} {xs : List Value} (h : Seg w e b o xs) (hj : j < xs.length) (u : Value) : Seg (w.setCell ⟨b, o + j, none⟩ u) e b o (xs.set j u) := by
  obtain ⟨cur, hc, hx⟩ := h
  refine ⟨cur.setIfInBounds (o + j) u, heap_setCell_same w b (o + j) cur e u hc, fun i y hy => ?_⟩
  have hlt : o + j < cur.size := by
    have := hx j xs[j] (List.getElem?_eq_getElem hj)
    exact (Array.getElem?_eq_some_iff.1 this).1
  rw [List.getElem?_set] at hy
  rw [Array.getElem?_setIfInBounds]
  by_cases hij : j = i
  · subst hij
    rw [if_pos rfl, if_pos hj] at hy
    rw [if_pos rfl, if_pos hlt]
    exact hy
  · rw [if_neg hij] at hy
    rw [if_neg (by omega)]
    exact hx i y hy

/-- k, k + 1, .. -/
def marks (k : Int) (n : Nat) : List Int := (List.range n).map fun (i : Nat) => k + (i : Int)
theorem marks_length (k : Int) (n : Nat) : (marks k n).length = n := by simp [marks]
theorem marks_get {k : Int} {n j : Nat} (h : j < n) : (marks k n).getD j 0 = k + j := by simp [marks, List.getD, h]
theorem marks_succ (k : Int) (n : Nat) : marks k (n + 1) = marks k n ++ [k + n] := by simp [marks, List.range_succ]
theorem marks_step {k : Int} {j : Nat} {zs : List Int} (h : j < zs.length) : (marks k j ++ zs.drop j).set j (k + j) = marks k (j + 1) ++ zs.drop (j + 1) := by
  rw [List.set_append_right j _ (by rw [marks_length]; omega), marks_length, Nat.sub_self, List.drop_eq_getElem_cons h, marks_succ, List.set_cons_zero, List.append_assoc]
  rfl

set_option maxHeartbeats 400000 in
theorem markIntS_any (v : Value) (zs : List Int) (lo : Nat) (k : Int) (w : World) (hv : Ints w lo v zs) (h0 : 0 ≤ k) (h1 : k ≤ 1099511627776) (h2 : zs.length ≤ 1099511627776) :
    Calls Tryd.prog 14 #[v, .int .i64 k] w fun e w' => e = .returned (.int .i64 (k + zs.length)) ∧ Ints w' lo v (marks k zs.length) ∧ w.grownBy w' v.ownBlock := by
  have hv0 := hv
  obtain ⟨A, c, rfl, hc, hm, hA⟩ := hv.open_
  clear hA hv
  obtain ⟨n, hx⟩ : ∃ n, zs.length = n := ⟨_, rfl⟩
  have HX := Lib.hid hx
  rw [hx] at hc hv0 h2 ⊢
  clear hx
  have HV := Lib.hid hv0
  clear hv0
  go_enter Tryd.func14, Tryd.ntmps14
  go_wp2
  go_loopw [1, 5] (fun kk i wr => ∃ j : Nat, j ≤ n ∧ i = .int .i64 j ∧ kk = .int .i64 (k + j) ∧ Hid (Ints wr lo (.slice A n c) (marks k j ++ zs.drop j)) ∧ Hid (w.grownBy wr (Value.slice A n c).ownBlock)) (fun _ i _ => n - (intOf i).toNat)
  case atStart => exact ⟨0, Nat.zero_le _, rfl, by simp, Lib.hid (by simpa [marks] using HV.out), Lib.hid (World.grownBy.refl _ _)⟩
  case round =>
    obtain ⟨j, hj, rfl, rfl, HI, HG⟩ := hrel
    have hlen : (marks k j ++ zs.drop j).length = n := by rw [List.length_append, marks_length, List.length_drop, HX.out]; omega
    by_cases hlt : j < n
    · obtain ⟨A', c', he, _, _, hA⟩ := HI.out.open_
      injection he with e1 e2 e3
      subst e1 e3
      obtain ⟨b, o, rfl, hlo, hb, hs⟩ := hA.resolve_left (fun h => by rw [h] at hlen; simp at hlen; omega)
      have hcell := hs.int_at (j := j) (by omega)
      have hfr := hs.frozen (o + j)
      have hs2 := hs.set_ (j := j) (by rw [iv_length]; omega) (.int .i64 (k + j))
      rw [iv_set, marks_step (by rw [HX.out]; exact hlt)] at hs2
      have HS := Lib.hid hs2
      obtain ⟨y, hy⟩ : ∃ y, (marks k j ++ zs.drop j).getD j 0 = y := ⟨_, rfl⟩
      rw [hy] at hcell
      have HG2 : Hid (w.grownBy (wr.setCell ⟨b, o + j, none⟩ (.int .i64 (k + j))) (Value.slice (some ⟨b, o, none⟩) n c).ownBlock) := Lib.hid (only_setCell (p := ⟨b, o + j, none⟩) HG.out (.inl rfl) _)
      have hi : (j : Int) < (n : Int) := by omega
      clear hs hs2 hA hy e2 hlen HI HG
      go_wp2
      go_roundw
      case rel =>
        refine ⟨j + 1, by omega, by go_num, by go_num, Lib.hid ?_, HG2⟩
        have hl2 : (marks k (j + 1) ++ zs.drop (j + 1)).length = n := by rw [List.length_append, marks_length, List.length_drop, HX.out]; omega
        exact ⟨by rw [iv_length, hl2]; omega, some ⟨b, o, none⟩, c, by rw [hl2], by rw [hl2]; exact hc, by unfold maxLen; omega, .inr ⟨b, o, rfl, hlo, HS.out⟩⟩
      case measure => simp [intOf]; omega
    · have hjn : j = n := by omega
      subst hjn
      have HI2 : Hid (Ints wr lo (.slice A j c) (marks k j)) := by
        have h := HI.out
        rw [List.drop_of_length_le (by rw [HX.out]; omega), List.append_nil] at h
        exact Lib.hid h
      clear HI hlen
      go_wp2
      go_ret
      exact ⟨rfl, HI2.out, HG.out⟩

set_option maxHeartbeats 400000 in
theorem heldIntS_any (v : Value) (k : Int) (n : Nat) (w : World) (hv : Ints w 0 v (marks k n)) (h0 : 0 ≤ k) (h1 : k ≤ 1099511627776) (h2 : n ≤ 1099511627776) :
    Calls Tryd.prog 15 #[v, .int .i64 k] w fun e w' => e = .returned (.int .i64 (k + n)) ∧ w = w' := by
  obtain ⟨A, c, rfl, hc, hm, hA⟩ := hv.open_
  rw [marks_length] at hc ⊢
  clear hv
  go_enter Tryd.func15, Tryd.ntmps15
  go_wp2
  go_loop [1, 5] (fun kk i => ∃ j : Nat, j ≤ n ∧ i = .int .i64 j ∧ kk = .int .i64 (k + j)) (fun _ i => n - (intOf i).toNat)
  case atStart => exact ⟨0, Nat.zero_le _, rfl, by simp⟩
  case round =>
    obtain ⟨j, hj, rfl, rfl⟩ := hrel
    by_cases hlt : j < n
    · obtain ⟨b, o, rfl, _, hb, hs⟩ := hA.resolve_left (fun h => by have := marks_length k n; rw [h] at this; simp at this; omega)
      have c1 := hs.int_at (j := j) (by rw [marks_length]; exact hlt)
      rw [marks_get hlt] at c1
      have hi : (j : Int) < (n : Int) := by omega
      have hne : (k + (j : Int) != k + (j : Int)) = false := by simp
      clear hs hA
      go_wp2
      go_round
      case rel => exact ⟨j + 1, by omega, by go_num, by go_num⟩
      case measure => simp [intOf]; omega
    · have hjn : j = n := by omega
      subst hjn
      go_wp2
      go_ret
      exact ⟨rfl, rfl⟩
end Go.Proofs.YtpcflkdeoafpeaaDoor

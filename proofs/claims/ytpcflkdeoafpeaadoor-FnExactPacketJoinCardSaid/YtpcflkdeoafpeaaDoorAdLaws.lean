/-
  The laws' own helpers at addresses: szIntS, szAddress, toAddress, eqAddress, markAddress, heldAddress, sameAddress. Conditions: the quads read as lists of integers.
-/
import Derived.Test.YtpcflkdeoafpeaaDoorAdArg
import Derived.Test.YtpcflkdeoafpeaaDoorTexts
import Derived.Test.YtpcflkdeoafpeaaDoorMarks
import Derived.Test.YtpcflkdeoafpeaaDoorRs
namespace Go.Proofs.YtpcflkdeoafpeaaDoor
open Go.RowKit

theorem Blk.new_ {W : World} {t : TypeId} {cs : Array Value} {g : Nat} (hg : g = W.heap.size) : Blk (W.alloc (.cells cs t)) g t cs := by
  subst hg
  exact Blk.new W t cs
theorem szIntS_fits (v : Value) (zs : List Int) (hi : Nat) (left : Int) (w : World) (hv : Came .i64 w hi v zs) (h : (zs.length : Int) ≤ left) (h1 : left ≤ 1048576) :
    Calls Tryd.prog 42 #[v, .int .i64 left] w fun e w' => e = .returned (.int .i64 (left - zs.length)) ∧ w = w' := by
  obtain ⟨A, c, rfl, hc, hm, _, _⟩ := hv
  have h3 : 0 ≤ left - (zs.length : Int) := by omega
  go_enter Tryd.func42, Tryd.ntmps42
  go_wp2
  go_ret
  exact ⟨rfl, rfl⟩
theorem szIntS_not (v : Value) (zs : List Int) (hi : Nat) (left : Int) (w : World) (hv : Came .i64 w hi v zs) (h : left < (zs.length : Int)) (h0 : 0 ≤ left) (h1 : left ≤ 1048576) :
    Calls Tryd.prog 42 #[v, .int .i64 left] w fun e w' => e = .returned (.int .i64 (-1)) ∧ w = w' := by
  obtain ⟨A, c, rfl, hc, hm, _, _⟩ := hv
  have h3 : left - (zs.length : Int) < 0 := by omega
  go_enter Tryd.func42, Tryd.ntmps42
  go_wp2
  go_ret
  exact ⟨rfl, rfl⟩

set_option maxRecDepth 100000 in
set_option maxHeartbeats 1000000 in
theorem szAddress_fits (k : Int) (q : Value) (nm : ByteArray) (p : Int) (qs : List Int) (hi : Nat) (left : Int) (w : World) (hq : Came .i64 w hi q qs) (hh : hi ≤ w.heap.size) (h : (qs.length : Int) + nm.size ≤ left) (h1 : left ≤ 1048576) :
    Calls Tryd.prog 41 #[.agg #[.int .i64 k, q, .string nm, .int .i64 p], .int .i64 left] w fun e w' => e = .returned (.int .i64 (left - qs.length - nm.size)) ∧ Below w.heap.size w w' := by
  have HQ := Lib.hid hq
  obtain ⟨A, c, rfl, hc, hm, _, _⟩ := hq
  have h2 : ¬ left - (qs.length : Int) < 0 := by omega
  have h3 : 0 ≤ left - (qs.length : Int) := by omega
  have h4 : 0 ≤ left - (qs.length : Int) - (nm.size : Int) := by omega
  go_enter Tryd.func41, Tryd.ntmps41
  go_wp2_with fail
  refine (szIntS_fits _ qs hi left _ (HQ.out.below ((Below.refl _ _).alloc hh _)) (by omega) h1).mono ?_
  rintro e w' ⟨rfl, rfl⟩
  go_wp2_with fail
  go_ret
  exact ⟨rfl, (Below.refl _ _).alloc (Nat.le_refl _) _⟩
set_option maxRecDepth 100000 in
set_option maxHeartbeats 1000000 in
theorem szAddress_not (k : Int) (q : Value) (nm : ByteArray) (p : Int) (qs : List Int) (hi : Nat) (left : Int) (w : World) (hq : Came .i64 w hi q qs) (hh : hi ≤ w.heap.size) (h : left < (qs.length : Int) + nm.size) (h0 : 0 ≤ left) (h1 : left ≤ 1048576) (hn : nm.size ≤ maxLen) :
    Calls Tryd.prog 41 #[.agg #[.int .i64 k, q, .string nm, .int .i64 p], .int .i64 left] w fun e w' => e = .returned (.int .i64 (-1)) ∧ Below w.heap.size w w' := by
  unfold maxLen at hn
  have HQ := Lib.hid hq
  obtain ⟨A, c, rfl, hc, hm, _, _⟩ := hq
  by_cases h2 : left < (qs.length : Int)
  · go_enter Tryd.func41, Tryd.ntmps41
    go_wp2_with fail
    refine (szIntS_not _ qs hi left _ (HQ.out.below ((Below.refl _ _).alloc hh _)) h2 h0 h1).mono ?_
    rintro e w' ⟨rfl, rfl⟩
    go_wp2_with fail
    go_ret
    exact ⟨rfl, (Below.refl _ _).alloc (Nat.le_refl _) _⟩
  · have h3 : 0 ≤ left - (qs.length : Int) := by omega
    have h3' : ¬ left - (qs.length : Int) < 0 := by omega
    have h4 : left - (qs.length : Int) - (nm.size : Int) < 0 := by omega
    go_enter Tryd.func41, Tryd.ntmps41
    go_wp2_with fail
    refine (szIntS_fits _ qs hi left _ (HQ.out.below ((Below.refl _ _).alloc hh _)) (by omega) h1).mono ?_
    rintro e w' ⟨rfl, rfl⟩
    go_wp2_with fail
    go_ret
    exact ⟨rfl, (Below.refl _ _).alloc (Nat.le_refl _) _⟩

/-- An address in memory of the call's own. -/
def MadeAd (w : World) (k : Int) (qs : List Int) (nm : ByteArray) (p : Int) (e : Ending) (w' : World) : Prop :=
  ∃ q, e = .returned (.agg #[.int .i64 k, q, .string nm, .int .i64 p]) ∧ Own w' w.heap.size q qs ∧ Below w.heap.size w w'

set_option maxRecDepth 100000 in
set_option maxHeartbeats 2000000 in
theorem toAddress_any (k : Int) (q : Value) (nm : ByteArray) (p : Int) (qs : List Int) (hi : Nat) (w : World) (hq : Came .i64 w hi q qs) (hh : hi ≤ w.heap.size) (hl : qs.length ≤ 1048576) :
    Calls Tryd.prog 43 #[.agg #[.int .i64 k, q, .string nm, .int .i64 p]] w fun e w' => MadeAd w k qs nm p e w' := by
  have HQ := Lib.hid hq
  obtain ⟨A, c, rfl, hc, hm, _, _⟩ := hq
  go_enter Tryd.func43, Tryd.ntmps43
  go_wp2_with fail
  have BW : Below hi w (((w.alloc (.cells #[.int .i64 k, .slice A qs.length c, .string nm, .int .i64 p] 51)).alloc (.cells #[.int .i64 0, .slice none 0 0, .string ⟨#[]⟩, .int .i64 0] 30)).alloc (.cells #[.int .i64 k, .slice none 0 0, .string ⟨#[]⟩, .int .i64 0] 30)) := (((Below.refl hi w).alloc hh _).alloc (by simp; omega) _).alloc (by simp; omega) _
  have BV : Below w.heap.size w (((w.alloc (.cells #[.int .i64 k, .slice A qs.length c, .string nm, .int .i64 p] 51)).alloc (.cells #[.int .i64 0, .slice none 0 0, .string ⟨#[]⟩, .int .i64 0] 30)).alloc (.cells #[.int .i64 k, .slice none 0 0, .string ⟨#[]⟩, .int .i64 0] 30)) := (((Below.refl _ w).alloc (Nat.le_refl _) _).alloc (by simp) _).alloc (by simp; omega) _
  refine (toIntS_any _ qs hi _ (HQ.out.below BW) (by simp; omega) (by omega)).mono ?_
  rintro e w1 ⟨q2, rfl, o2, b2⟩
  have KA : Blk w1 w.heap.size 51 #[.int .i64 k, .slice A qs.length c, .string nm, .int .i64 p] := (((Blk.new_ rfl).alloc _).alloc _).kept b2
  have KR : Blk w1 (w.heap.size + 1) 30 #[.int .i64 0, .slice none 0 0, .string ⟨#[]⟩, .int .i64 0] := ((Blk.new_ (by simp)).alloc _).kept b2
  have KO : Blk w1 (w.heap.size + 1 + 1) 30 #[.int .i64 k, .slice none 0 0, .string ⟨#[]⟩, .int .i64 0] := (Blk.new_ (by simp)).kept b2
  have B2 := Lib.hid (BV.trans (b2.mono BV.size))
  have O2 : Hid (Own w1 (w.heap.size + 1 + 1 + 1) q2 qs) := Lib.hid (o2.more (by simp))
  obtain ⟨A2, c2, rfl, _, _, _⟩ := O2.out.form
  have a2 : w1.cell? ⟨w.heap.size, 2, none⟩ = some (.string nm) := KA.cell 2
  have a3 : w1.cell? ⟨w.heap.size, 3, none⟩ = some (.int .i64 p) := KA.cell 3
  have r0 : w1.cell? ⟨w.heap.size + 1, 0, none⟩ = some (.int .i64 0) := KR.cell 0
  have r1 : w1.cell? ⟨w.heap.size + 1, 1, none⟩ = some (.slice none 0 0) := KR.cell 1
  have r2 : w1.cell? ⟨w.heap.size + 1, 2, none⟩ = some (.string ⟨#[]⟩) := KR.cell 2
  have r3 : w1.cell? ⟨w.heap.size + 1, 3, none⟩ = some (.int .i64 0) := KR.cell 3
  have o0 : w1.cell? ⟨w.heap.size + 1 + 1, 0, none⟩ = some (.int .i64 k) := KO.cell 0
  have o1 : w1.cell? ⟨w.heap.size + 1 + 1, 1, none⟩ = some (.slice none 0 0) := KO.cell 1
  have o2' : w1.cell? ⟨w.heap.size + 1 + 1, 2, none⟩ = some (.string ⟨#[]⟩) := KO.cell 2
  have o3 : w1.cell? ⟨w.heap.size + 1 + 1, 3, none⟩ = some (.int .i64 0) := KO.cell 3
  have fr0 := KR.free 0
  have fr1 := KR.free 1
  have fr2 := KR.free 2
  have fr3 := KR.free 3
  have fo1 := KO.free 1
  have fo2 := KO.free 2
  have fo3 := KO.free 3
  clear o2 b2 KA KR KO BW BV HQ
  go_wp2_with fail
  refine bodyPost_ret (v := .agg #[.int .i64 k, .slice A2 qs.length c2, .string nm, .int .i64 p]) (by simp [results, Tryd.results43, go_sem, r0, r1, r2, r3]) rfl ?_
  exact ⟨_, rfl, (((((((O2.out.far (by omega) _).far (by omega) _).far (by omega) _).far (by omega) _).far (by omega) _).far (by omega) _).far (by omega) _).more (by omega), (((((((B2.out.setCell (p := ⟨w.heap.size + 1 + 1, 1, none⟩) (show w.heap.size ≤ w.heap.size + 1 + 1 by omega) _).setCell (p := ⟨w.heap.size + 1 + 1, 2, none⟩) (show w.heap.size ≤ w.heap.size + 1 + 1 by omega) _).setCell (p := ⟨w.heap.size + 1 + 1, 3, none⟩) (show w.heap.size ≤ w.heap.size + 1 + 1 by omega) _).setCell (p := ⟨w.heap.size + 1, 0, none⟩) (show w.heap.size ≤ w.heap.size + 1 by omega) _).setCell (p := ⟨w.heap.size + 1, 1, none⟩) (show w.heap.size ≤ w.heap.size + 1 by omega) _).setCell (p := ⟨w.heap.size + 1, 2, none⟩) (show w.heap.size ≤ w.heap.size + 1 by omega) _).setCell (p := ⟨w.heap.size + 1, 3, none⟩) (show w.heap.size ≤ w.heap.size + 1 by omega) _)⟩

set_option maxRecDepth 100000 in
set_option maxHeartbeats 2000000 in
theorem eqAddress_same (k : Int) (q q2 : Value) (nm : ByteArray) (p : Int) (qs : List Int) (w : World) (h1 : Ints w 0 q qs) (h2 : Ints w 0 q2 qs) :
    Calls Tryd.prog 45 #[.agg #[.int .i64 k, q, .string nm, .int .i64 p], .agg #[.int .i64 k, q2, .string nm, .int .i64 p]] w fun e w' => e = .returned (.bool true) ∧ Below w.heap.size w w' := by
  have H1 := Lib.hid h1
  have H2 := Lib.hid h2
  obtain ⟨A, c, rfl, hc, hm, _⟩ := h1.open_
  obtain ⟨A2, c2, rfl, hc2, hm2, _⟩ := h2.open_
  clear h1 h2
  go_enter Tryd.func45, Tryd.ntmps45
  go_wp2_with fail
  refine (eqIntS_any _ _ qs qs _ ((H1.out.alloc _).alloc _) ((H2.out.alloc _).alloc _)).mono ?_
  rintro e w1 ⟨rfl, n1, rfl⟩
  rw [decide_eq_true rfl]
  go_wp2_with fail
  go_ret
  exact ⟨rfl, below_drewN (((Below.refl _ _).alloc (Nat.le_refl _) _).alloc (by simp) _) n1⟩



/-- An own row's block is none below its base, and none that the row's world lacks. -/
theorem Own.newer {w : World} {base g : Nat} {v : Value} {zs : List Int} (h : Own w base v zs) (hg : g < base) : v.ownBlock ≠ some g := by
  intro he
  have h1 := (World.ownsRow.lt h g he).1
  omega
theorem Own.oldBlk {w : World} {base g : Nat} {v : Value} {zs : List Int} (h : Own w base v zs) (hg : w.heap.size ≤ g) : v.ownBlock ≠ some g := by
  rcases h.2 with ⟨h0, _⟩ | ⟨b, cap, cur, he, _, hh, _⟩
  · subst h0
    simp [Value.ownBlock]
  · subst he
    have := (Array.getElem?_eq_some_iff.1 hh).1
    simp [Value.ownBlock]
    omega
theorem Blk.apart {w w' : World} {g n : Nat} {t : TypeId} {cs : Array Value} {v : Value} (h : Blk w g t cs) (hg : (w.drewN n).grownBy w' v.ownBlock) (hne : v.ownBlock ≠ some g) : Blk w' g t cs := (h.drewN n).grown hg (Ne.symm hne)
end Go.Proofs.YtpcflkdeoafpeaaDoor

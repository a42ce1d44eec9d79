/-
  The laws' own helpers at packets: markPacket and toPacket. Conditions: the quads and the data lie in rows of the call's own, apart from each other.
-/
import Derived.Test.YtpcflkdeoafpeaaDoorPkLaws2
namespace Go.Proofs.YtpcflkdeoafpeaaDoor
open Go.RowKit

/-- A slice of another block than the one that has turned. -/
theorem Ints.keepRow {w w' : World} {lo : Nat} {v : Value} {zs : List Int} {row : Option Nat} (h : Ints w lo v zs) (hg : w.grownBy w' row) (hne : v.ownBlock = none ∨ v.ownBlock ≠ row) : Ints w' lo v zs := by
  obtain ⟨h0, A, c, h1, h2, h3, h4⟩ := h
  refine ⟨h0, A, c, h1, h2, h3, h4.keep fun b o ha hs => hg.block b hs.lt ?_⟩
  intro he
  subst h1 ha
  rcases hne with hn | hn
  · simp [Value.ownBlock] at hn
  · exact hn (by simp [Value.ownBlock, ← he])


theorem apart_symm {a b : Option Nat} (h : a = none ∨ a ≠ b) : b = none ∨ b ≠ a := by
  rcases h with rfl | h
  · cases b
    · exact .inl rfl
    · exact .inr (by simp)
  · exact .inr (Ne.symm h)
theorem Own.keep2 {w w1 w' : World} {base : Nat} {v : Value} {zs : List Int} {a b : Option Nat} (h : Own w base v zs) (g1 : w.grownBy w1 a) (g2 : w1.grownBy w' b) (n1 : v.ownBlock = none ∨ v.ownBlock ≠ a) (n2 : v.ownBlock = none ∨ v.ownBlock ≠ b) : Own w' base v zs := (h.keep g1 n1).keep g2 n2

/-- Six cells of a block are stored, whole. -/
theorem Own.six6 {w : World} {base B : Nat} {s x y z u v t : Value} {zs : List Int} (h : Own w base s zs) (hb : B < base) : Own ((((((w.setCell ⟨B, 0, none⟩ x).setCell ⟨B, 1, none⟩ y).setCell ⟨B, 2, none⟩ z).setCell ⟨B, 3, none⟩ u).setCell ⟨B, 4, none⟩ v).setCell ⟨B, 5, none⟩ t) base s zs :=
  (((((h.far hb x).far hb y).far hb z).far hb u).far hb v).far hb t
theorem below_all6 {B0 : Nat} {w W : World} {g : Nat} (h : Below B0 w W) (hg : B0 ≤ g) (x y z u v t : Value) : Below B0 w ((((((W.setCell ⟨g, 0, none⟩ x).setCell ⟨g, 1, none⟩ y).setCell ⟨g, 2, none⟩ z).setCell ⟨g, 3, none⟩ u).setCell ⟨g, 4, none⟩ v).setCell ⟨g, 5, none⟩ t) :=
  (((((h.setCell (p := ⟨g, 0, none⟩) hg x).setCell (p := ⟨g, 1, none⟩) hg y).setCell (p := ⟨g, 2, none⟩) hg z).setCell (p := ⟨g, 3, none⟩) hg u).setCell (p := ⟨g, 4, none⟩) hg v).setCell (p := ⟨g, 5, none⟩) hg t

/-- A packet in memory of the call's own, its quad and its data apart. -/
def MadePk (w : World) (f k : Int) (qs : List Int) (nm : ByteArray) (p : Int) (ds : List Int) (e : Ending) (w' : World) : Prop :=
  ∃ q d, e = .returned (.agg #[.int .i64 f, .int .i64 k, q, .string nm, .int .i64 p, d]) ∧ Own w' w.heap.size q qs ∧ Own w' w.heap.size d ds ∧ (q.ownBlock = none ∨ q.ownBlock ≠ d.ownBlock) ∧ (d.ownBlock = none ∨ d.ownBlock ≠ q.ownBlock) ∧ Below w.heap.size w w'

set_option maxRecDepth 100000 in
set_option maxHeartbeats 2000000 in
theorem toPacket_any (f k : Int) (q : Value) (nm : ByteArray) (p : Int) (d : Value) (qs ds : List Int) (hi : Nat) (w : World) (hq : Came .i64 w hi q qs) (hd : Came .i64 w hi d ds) (hh : hi ≤ w.heap.size) (hl : qs.length ≤ 1048576) (hl2 : ds.length ≤ 1048576) :
    Calls Tryd.prog 26 #[.agg #[.int .i64 f, .int .i64 k, q, .string nm, .int .i64 p, d]] w fun e w' => MadePk w f k qs nm p ds e w' := by
  have HQ := Lib.hid hq
  have HD := Lib.hid hd
  obtain ⟨A, c, rfl, hc, hm, _, _⟩ := hq
  obtain ⟨A9, c9, rfl, hc9, hm9, _, _⟩ := hd
  obtain ⟨V, hV⟩ : ∃ V, ((w.alloc (.cells #[.int .i64 f, .int .i64 k, .slice A qs.length c, .string nm, .int .i64 p, .slice A9 ds.length c9] 53)).alloc (.cells #[.int .i64 0, .int .i64 0, .slice none 0 0, .string ⟨#[]⟩, .int .i64 0, .slice none 0 0] 32)).alloc (.cells #[.int .i64 f, .int .i64 0, .slice none 0 0, .string ⟨#[]⟩, .int .i64 0, .slice none 0 0] 32) = V := ⟨_, rfl⟩
  have KA : Hid (Blk V w.heap.size 53 #[.int .i64 f, .int .i64 k, .slice A qs.length c, .string nm, .int .i64 p, .slice A9 ds.length c9]) := Lib.hid (by rw [← hV]; exact ((Blk.new_ rfl).alloc _).alloc _)
  have KR : Hid (Blk V (w.heap.size + 1) 32 #[.int .i64 0, .int .i64 0, .slice none 0 0, .string ⟨#[]⟩, .int .i64 0, .slice none 0 0]) := Lib.hid (by rw [← hV]; exact (Blk.new_ (by simp)).alloc _)
  have KO : Hid (Blk V (w.heap.size + 1 + 1) 32 #[.int .i64 f, .int .i64 0, .slice none 0 0, .string ⟨#[]⟩, .int .i64 0, .slice none 0 0]) := Lib.hid (by rw [← hV]; exact Blk.new_ (by simp))
  have BH : Hid (Below hi w V) := Lib.hid (by rw [← hV]; exact (((Below.refl hi w).alloc hh _).alloc (by simp; omega) _).alloc (by simp; omega) _)
  have B : Hid (Below w.heap.size w V) := Lib.hid (by rw [← hV]; exact (((Below.refl _ w).alloc (Nat.le_refl _) _).alloc (by simp) _).alloc (by simp; omega) _)
  have zV : V.heap.size = w.heap.size + 1 + 1 + 1 := by rw [← hV]; simp
  have HV := Lib.hid hV
  clear hV
  go_enter Tryd.func26, Tryd.ntmps26
  go_wp2_with fail
  rw [HV.out]
  refine (toAddress_any k _ nm p qs hi _ (HQ.out.below BH.out) (by omega) hl).mono ?_
  rintro e w1 ⟨q2, rfl, o2, b2⟩
  have b2' : Below (w.heap.size + 1 + 1 + 1) V w1 := by rw [← zV]; exact b2
  have z1 := b2.size
  rw [zV] at z1 o2
  obtain ⟨A2, c2, rfl, _, _, _⟩ := o2.form
  have KA1 := Lib.hid (KA.out.kept b2)
  have KR1 := Lib.hid (KR.out.kept b2)
  have KO1 := Lib.hid (KO.out.kept b2)
  have O2 := Lib.hid o2
  have BH1 := Lib.hid (BH.out.trans (b2.mono (by omega)))
  have B1 := Lib.hid (B.out.trans (b2.mono (by omega)))
  have a5 : w1.cell? ⟨w.heap.size, 5, none⟩ = some (.slice A9 ds.length c9) := KA1.out.cell 5
  have oo0 : w1.cell? ⟨w.heap.size + 1 + 1, 0, none⟩ = some (.int .i64 f) := KO1.out.cell 0
  have oo1 : w1.cell? ⟨w.heap.size + 1 + 1, 1, none⟩ = some (.int .i64 0) := KO1.out.cell 1
  have oo2 : w1.cell? ⟨w.heap.size + 1 + 1, 2, none⟩ = some (.slice none 0 0) := KO1.out.cell 2
  have oo3 : w1.cell? ⟨w.heap.size + 1 + 1, 3, none⟩ = some (.string ⟨#[]⟩) := KO1.out.cell 3
  have oo4 : w1.cell? ⟨w.heap.size + 1 + 1, 4, none⟩ = some (.int .i64 0) := KO1.out.cell 4
  have oo5 : w1.cell? ⟨w.heap.size + 1 + 1, 5, none⟩ = some (.slice none 0 0) := KO1.out.cell 5
  have fo1 := KO1.out.free 1
  have fo2 := KO1.out.free 2
  have fo3 := KO1.out.free 3
  have fo4 := KO1.out.free 4
  clear o2 b2 b2' KA KR KO BH B
  go_wp2_with fail
  obtain ⟨W2, hW2⟩ : ∃ W2, (((w1.setCell ⟨w.heap.size + 1 + 1, 1, none⟩ (.int .i64 k)).setCell ⟨w.heap.size + 1 + 1, 2, none⟩ (.slice A2 qs.length c2)).setCell ⟨w.heap.size + 1 + 1, 3, none⟩ (.string nm)).setCell ⟨w.heap.size + 1 + 1, 4, none⟩ (.int .i64 p) = W2 := ⟨_, rfl⟩
  have KO2 : Hid (Blk W2 (w.heap.size + 1 + 1) 32 #[.int .i64 f, .int .i64 k, .slice A2 qs.length c2, .string nm, .int .i64 p, .slice none 0 0]) := Lib.hid (by rw [← hW2]; exact (((KO1.out.set_ 1 (.int .i64 k)).set_ 2 (.slice A2 qs.length c2)).set_ 3 (.string nm)).set_ 4 (.int .i64 p))
  have KR2 : Hid (Blk W2 (w.heap.size + 1) 32 #[.int .i64 0, .int .i64 0, .slice none 0 0, .string ⟨#[]⟩, .int .i64 0, .slice none 0 0]) := Lib.hid (by rw [← hW2]; exact (((KR1.out.far (p := ⟨w.heap.size + 1 + 1, 1, none⟩) (by dsimp only; omega) _).far (p := ⟨w.heap.size + 1 + 1, 2, none⟩) (by dsimp only; omega) _).far (p := ⟨w.heap.size + 1 + 1, 3, none⟩) (by dsimp only; omega) _).far (p := ⟨w.heap.size + 1 + 1, 4, none⟩) (by dsimp only; omega) _)
  have O22 : Hid (Own W2 (w.heap.size + 1 + 1 + 1) (.slice A2 qs.length c2) qs) := Lib.hid (by rw [← hW2]; exact (((O2.out.far (by omega) _).far (by omega) _).far (by omega) _).far (by omega) _)
  have BH2 : Hid (Below hi w W2) := Lib.hid (by rw [← hW2]; exact (((BH1.out.setCell (p := ⟨w.heap.size + 1 + 1, 1, none⟩) (show hi ≤ w.heap.size + 1 + 1 by omega) _).setCell (p := ⟨w.heap.size + 1 + 1, 2, none⟩) (show hi ≤ w.heap.size + 1 + 1 by omega) _).setCell (p := ⟨w.heap.size + 1 + 1, 3, none⟩) (show hi ≤ w.heap.size + 1 + 1 by omega) _).setCell (p := ⟨w.heap.size + 1 + 1, 4, none⟩) (show hi ≤ w.heap.size + 1 + 1 by omega) _)
  have B2 : Hid (Below w.heap.size w W2) := Lib.hid (by rw [← hW2]; exact (((B1.out.setCell (p := ⟨w.heap.size + 1 + 1, 1, none⟩) (show w.heap.size ≤ w.heap.size + 1 + 1 by omega) _).setCell (p := ⟨w.heap.size + 1 + 1, 2, none⟩) (show w.heap.size ≤ w.heap.size + 1 + 1 by omega) _).setCell (p := ⟨w.heap.size + 1 + 1, 3, none⟩) (show w.heap.size ≤ w.heap.size + 1 + 1 by omega) _).setCell (p := ⟨w.heap.size + 1 + 1, 4, none⟩) (show w.heap.size ≤ w.heap.size + 1 + 1 by omega) _)
  have z2 : w.heap.size + 1 + 1 + 1 ≤ W2.heap.size := by rw [← hW2]; simpa using z1
  rw [hW2]
  clear hW2 KA1 KR1 KO1 O2 BH1 B1 a5 oo0 oo1 oo2 oo3 oo4 oo5 fo1 fo2 fo3 fo4
  refine (toIntS_any _ ds hi _ (HD.out.below BH2.out) (by omega) (by omega)).mono ?_
  rintro e w3 ⟨d4, rfl, o4, b4⟩
  have P1 := Lib.hid (O22.out.ahead o4)
  have P2 := Lib.hid (O22.out.past o4)
  obtain ⟨A4, c4, rfl, _, _, _⟩ := o4.form
  have KR3 := KR2.out.kept b4
  have KO3 := KO2.out.kept b4
  have O23 := Lib.hid (O22.out.below b4)
  have O4 := Lib.hid (o4.more z2)
  have B3 := Lib.hid (B2.out.trans (b4.mono B2.out.size))
  have r0 : w3.cell? ⟨w.heap.size + 1, 0, none⟩ = some (.int .i64 0) := KR3.cell 0
  have r1 : w3.cell? ⟨w.heap.size + 1, 1, none⟩ = some (.int .i64 0) := KR3.cell 1
  have r2 : w3.cell? ⟨w.heap.size + 1, 2, none⟩ = some (.slice none 0 0) := KR3.cell 2
  have r3 : w3.cell? ⟨w.heap.size + 1, 3, none⟩ = some (.string ⟨#[]⟩) := KR3.cell 3
  have r4 : w3.cell? ⟨w.heap.size + 1, 4, none⟩ = some (.int .i64 0) := KR3.cell 4
  have r5 : w3.cell? ⟨w.heap.size + 1, 5, none⟩ = some (.slice none 0 0) := KR3.cell 5
  have x0 : w3.cell? ⟨w.heap.size + 1 + 1, 0, none⟩ = some (.int .i64 f) := KO3.cell 0
  have x1 : w3.cell? ⟨w.heap.size + 1 + 1, 1, none⟩ = some (.int .i64 k) := KO3.cell 1
  have x2 : w3.cell? ⟨w.heap.size + 1 + 1, 2, none⟩ = some (.slice A2 qs.length c2) := KO3.cell 2
  have x3 : w3.cell? ⟨w.heap.size + 1 + 1, 3, none⟩ = some (.string nm) := KO3.cell 3
  have x4 : w3.cell? ⟨w.heap.size + 1 + 1, 4, none⟩ = some (.int .i64 p) := KO3.cell 4
  have x5 : w3.cell? ⟨w.heap.size + 1 + 1, 5, none⟩ = some (.slice none 0 0) := KO3.cell 5
  have fx5 := KO3.free 5
  have fr0 := KR3.free 0
  have fr1 := KR3.free 1
  have fr2 := KR3.free 2
  have fr3 := KR3.free 3
  have fr4 := KR3.free 4
  have fr5 := KR3.free 5
  clear o4 b4 KR2 KO2 O22 BH2 B2 KR3 KO3 HQ HD
  go_wp2_with fail
  refine bodyPost_ret (v := .agg #[.int .i64 f, .int .i64 k, .slice A2 qs.length c2, .string nm, .int .i64 p, .slice A4 ds.length c4]) (by simp [results, Tryd.results26, go_sem, r0, r1, r2, r3, r4, r5]) rfl ?_
  exact ⟨_, _, rfl, ((O23.out.far (by omega) _).six6 (by omega)).more (by omega), ((O4.out.far (by omega) _).six6 (by omega)).more (by omega), P1.out, P2.out, below_all6 (B3.out.setCell (p := ⟨w.heap.size + 1 + 1, 5, none⟩) (show w.heap.size ≤ w.heap.size + 1 + 1 by omega) _) (show w.heap.size ≤ w.heap.size + 1 by omega) _ _ _ _ _ _⟩
end Go.Proofs.YtpcflkdeoafpeaaDoor

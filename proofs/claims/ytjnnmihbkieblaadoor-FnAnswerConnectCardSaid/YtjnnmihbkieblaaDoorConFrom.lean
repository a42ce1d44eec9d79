/-
  What asks for a tunnel, read back: ConnectFrom of the program. Conditions: the text is shorter than 2^32 - 15; the library's tables and error variables read as they were laid.
-/
import Derived.Test.YtjnnmihbkieblaaDoorAdFrom
namespace Go.Proofs.YtjnnmihbkieblaaDoor
open Go.RowKit Go.Sort

/-- Behind what asks for a tunnel. -/
def ConGave (s : ByteArray) (w : World) (e : Ending) (w' : World) : Prop :=
  (∃ k q qs nm p, e = .returned (.tuple #[.agg #[.int .i64 k, q, .string nm, .int .i64 p], .int .i64 ((conT (adT k qs nm p)).size : Nat), .bool true]) ∧ IsCon s k qs nm p ∧ Own w' w.heap.size q qs ∧ Below w.heap.size w w') ∨
  (e = .returned (.tuple #[.agg #[.int .i64 0, .slice none 0 0, .string .empty, .int .i64 0], .int .i64 0, .bool false]) ∧ NoCon s ∧ Below w.heap.size w w')
/-- If the text asks for a tunnel, then to the address with the text t. -/
def Holds (s t : ByteArray) : Prop := ∀ k qs nm p, IsCon s k qs nm p → IsAd t k qs nm p
theorem holds_none {s : ByteArray} (h : NoCon s) (t : ByteArray) : Holds s t := fun k qs nm p h1 => absurd h1 (h k qs nm p)
theorem noCon_ad {s t : ByteArray} (h : Holds s t) (hn : NoAd t) : NoCon s := fun k qs nm p h1 => hn k qs nm p (h k qs nm p h1)
theorem noCon_beg2 {s t : ByteArray} {k : Int} {qs : List Int} {nm : ByteArray} {p : Int} (h : Holds s t) (ha : IsAd t k qs nm p) (hb : beg s (conT (adT k qs nm p)) = false) : NoCon s := by
  intro k' qs' nm' p' h1
  obtain ⟨rfl, rfl, rfl, rfl⟩ := ad_inj ha (h k' qs' nm' p' h1)
  rw [h1.2] at hb
  cases hb
theorem conB_rest {s : ByteArray} (h : beg s conB = true) : s.data.toList = conB.data.toList ++ (behind s conB).data.toList ∧ (behind s conB).size ≤ s.size := by
  obtain ⟨t, rfl⟩ := beg_split h
  rw [behind_append]
  exact ⟨by simp [ByteArray.data_append], by rw [ByteArray.size_append]; omega⟩
theorem size_part {r a b : ByteArray} {c : UInt8} (h : r.data.toList = a.data.toList ++ c :: b.data.toList) : a.size ≤ r.size := by
  have := (cut_left h).2.2
  omega
/-- What CutPrefix and Cut find. -/
theorem cut_found (s : ByteArray) (hs : s.size ≤ 1000000000000) : ∃ (R : ByteArray) (f : Bool), (∀ W : World, Calls Tryd.prog 16 #[.string s, .string ⟨#[67, 79, 78, 78, 69, 67, 84, 32]⟩] W fun e w' => e = .returned (.tuple #[.string R, .bool f]) ∧ Below W.heap.size W w') ∧
    ∃ (t u : ByteArray) (f2 : Bool), (∀ W : World, Calls Tryd.prog 17 #[.string R, .string ⟨#[32]⟩] W fun e w' => e = .returned (.tuple #[.string t, .string u, .bool f2]) ∧ Below W.heap.size W w') ∧ t.size ≤ s.size ∧ Holds s t := by
  cases hb : beg s conB
  · refine ⟨s, false, fun W => (CutPrefix_no s _ W hb).mono fun e w' ⟨h, n, hw⟩ => ⟨h, by rw [hw]; exact below_drewN (Below.refl _ _) n⟩, ?_⟩
    rcases cut_cases s.data.toList 32 with hno | ⟨a, b, hab, ha⟩
    · exact ⟨s, _, _, fun W => Cut_no_b s 32 W hno, Nat.le_refl _, holds_none (noCon_beg hb) _⟩
    · exact ⟨a, b, _, fun W => Cut_yes_b s a b 32 W hab ha hs, size_part hab, holds_none (noCon_beg hb) _⟩
  · obtain ⟨h1, h2⟩ := conB_rest hb
    refine ⟨behind s conB, true, fun W => (CutPrefix_yes s _ W hb).mono fun e w' ⟨h, n, hw⟩ => ⟨h, by rw [hw]; exact below_drewN (Below.refl _ _) n⟩, ?_⟩
    rcases cut_cases (behind s conB).data.toList 32 with hno | ⟨a, b, hab, ha⟩
    · exact ⟨_, _, _, fun W => Cut_no_b _ 32 W hno, h2, holds_none (noCon_blank h1 hno) _⟩
    · refine ⟨a, b, _, fun W => Cut_yes_b _ a b 32 W hab ha (by omega), Nat.le_trans (size_part hab) h2, fun k qs nm p h => ?_⟩
      rw [hab] at h1
      exact con_text h1 ha h
theorem zero_con : conX 0 [] .empty 0 = ⟨#[]⟩ := conX_not rfl
theorem con_fits {a : ByteArray} {k : Int} {qs : List Int} {nm : ByteArray} {p : Int} (h : IsAd a k qs nm p) : nm.size < 4294967281 := by
  have := (adOk_sizes h.1).2
  omega

set_option maxRecDepth 100000 in
set_option maxHeartbeats 4000000 in
theorem impl_ConnectFrom_any (s : ByteArray) (w : World) (hs : s.size < 4294967281) (ht : Tabs w) (he : Errs w) : Calls Tryd.prog 7 #[.string s] w fun e w' => ConGave s w e w' := by
  have B0 : Hid (Below w.heap.size w (w.alloc (.cells #[.int .i64 0, .slice none 0 0, .string .empty, .int .i64 0] 27))) := Lib.hid ((Below.refl _ _).alloc (Nat.le_refl _) _)
  have K0 := Lib.hid (Blk.new w 27 #[.int .i64 0, .slice none 0 0, .string .empty, .int .i64 0])
  have HT := Lib.hid ht
  have HE := Lib.hid he
  obtain ⟨R, f, q1, t, u, f2, q2, hts, hh⟩ := cut_found s (by omega)
  have Q1 := Lib.hid q1
  have Q2 := Lib.hid q2
  have HH := Lib.hid hh
  have hts2 : t.size < 4294967281 := by omega
  clear ht he q1 q2 hh hts hs
  go_enter Tryd.func7, Tryd.ntmps7
  go_wp2_with fail
  refine (Q1.out _).mono ?_
  rintro e w1 ⟨rfl, b1⟩
  have B1 := Lib.hid (B0.out.trans (b1.mono B0.out.size))
  have K1 := Lib.hid (K0.out.kept b1)
  clear b1 K0 B0
  go_wp2_with fail
  refine (Q2.out _).mono ?_
  rintro e w2 ⟨rfl, b2⟩
  have B2 := Lib.hid (B1.out.trans (b2.mono B1.out.size))
  have K2 := Lib.hid (K1.out.kept b2)
  clear b2 K1 B1
  go_wp2_with fail
  refine (impl_AddressFrom_any t _ hts2 (HT.out.below B2.out) (HE.out.below B2.out)).mono ?_
  rintro e w3 (⟨k, q, qs, nm, p, rfl, ha, o3, b3⟩ | ⟨rfl, hno, b3⟩)
  · obtain ⟨A4, c4, rfl, _, _, _⟩ := o3.form
    have HA := Lib.hid ha
    have z2 : w.heap.size < w2.heap.size := K2.out.lt
    obtain ⟨V, hV⟩ : ∃ V, w3.alloc (.cells #[.int .i64 k, .slice A4 qs.length c4, .string nm, .int .i64 p] 27) = V := ⟨_, rfl⟩
    have KV : Hid (Blk V w3.heap.size 27 #[.int .i64 k, .slice A4 qs.length c4, .string nm, .int .i64 p]) := Lib.hid (by rw [← hV]; exact Blk.new _ _ _)
    have JV : Hid (Blk V w.heap.size 27 #[.int .i64 0, .slice none 0 0, .string .empty, .int .i64 0]) := Lib.hid (by rw [← hV]; exact (K2.out.kept b3).alloc _)
    have BV : Hid (Below w.heap.size w V) := Lib.hid (by rw [← hV]; exact (B2.out.trans (b3.mono B2.out.size)).alloc (B2.out.trans (b3.mono B2.out.size)).size _)
    have OV : Hid (Own V (w.heap.size + 1) (.slice A4 qs.length c4) qs) := Lib.hid (by rw [← hV]; exact (o3.more z2).alloc _)
    have k0 : V.cell? ⟨w3.heap.size, 0, none⟩ = some (.int .i64 k) := KV.out.cell 0
    have k1 : V.cell? ⟨w3.heap.size, 1, none⟩ = some (.slice A4 qs.length c4) := KV.out.cell 1
    have k2 : V.cell? ⟨w3.heap.size, 2, none⟩ = some (.string nm) := KV.out.cell 2
    have k3 : V.cell? ⟨w3.heap.size, 3, none⟩ = some (.int .i64 p) := KV.out.cell 3
    have hnz := con_fits ha
    obtain ⟨C, hC⟩ : ∃ C, conT (adT k qs nm p) = C := ⟨_, rfl⟩
    have EC : Hid (conX k qs nm p = C) := Lib.hid (by rw [← hC]; exact conX_ok ha.1)
    have ET := Lib.hid hC
    clear ha o3 b3 K2 B2 hC
    go_wp2_with fail
    clear hV
    refine (impl_ConnectText_any k _ nm p qs _ OV.out.ints.zero hnz (HT.out.below BV.out)).mono ?_
    rintro e w4 ⟨rfl, b4⟩
    rw [EC.out]
    clear k0 k1 k2 k3
    have K4 := Lib.hid (KV.out.kept b4)
    have J4 := Lib.hid (JV.out.kept b4)
    have O4 := Lib.hid (OV.out.below b4)
    have B4 := Lib.hid (BV.out.trans (b4.mono BV.out.size))
    have j0 : w4.cell? ⟨w.heap.size, 0, none⟩ = some (.int .i64 0) := J4.out.cell 0
    have j1 : w4.cell? ⟨w.heap.size, 1, none⟩ = some (.slice none 0 0) := J4.out.cell 1
    have j2 : w4.cell? ⟨w.heap.size, 2, none⟩ = some (.string .empty) := J4.out.cell 2
    have j3 : w4.cell? ⟨w.heap.size, 3, none⟩ = some (.int .i64 0) := J4.out.cell 3
    have k0 : w4.cell? ⟨w3.heap.size, 0, none⟩ = some (.int .i64 k) := K4.out.cell 0
    have k1 : w4.cell? ⟨w3.heap.size, 1, none⟩ = some (.slice A4 qs.length c4) := K4.out.cell 1
    have k2 : w4.cell? ⟨w3.heap.size, 2, none⟩ = some (.string nm) := K4.out.cell 2
    have k3 : w4.cell? ⟨w3.heap.size, 3, none⟩ = some (.int .i64 p) := K4.out.cell 3
    have f0 := J4.out.free 0
    have f1 := J4.out.free 1
    have f2 := J4.out.free 2
    have f3 := J4.out.free 3
    clear b4 KV JV OV BV
    cases hb : beg s C
    · have NC := Lib.hid (noCon_beg2 HH.out HA.out (by rw [ET.out]; exact hb))
      go_wp2_with (go_at_call 18; refine (HasPrefix_any s C _).mono ?_; rintro e w5 ⟨rfl, rfl⟩; rw [hb])
      refine bodyPost_ret (v := .tuple #[.agg #[.int .i64 0, .slice none 0 0, .string .empty, .int .i64 0], .int .i64 0, .bool false]) (by simp [results, Tryd.results7, go_sem, j0, j1, j2, j3]; rfl) rfl ?_
      exact .inr ⟨rfl, NC.out, below_s4 B4.out (Nat.le_refl _) _ _ _ _⟩
    · have IC : Hid (IsCon s k qs nm p) := Lib.hid ⟨HA.out.1, by rw [ET.out]; exact hb⟩
      go_wp2_with (go_at_call 18; refine (HasPrefix_any s C _).mono ?_; rintro e w5 ⟨rfl, rfl⟩; rw [hb])
      refine bodyPost_ret (v := .tuple #[.agg #[.int .i64 k, .slice A4 qs.length c4, .string nm, .int .i64 p], .int .i64 (C.size : Nat), .bool true]) (by simp [results, Tryd.results7, go_sem, j0, j1, j2, j3]) rfl ?_
      exact .inl ⟨k, _, qs, nm, p, by rw [ET.out], IC.out, (ctx_own O4.out (Nat.lt_succ_self _)).more (Nat.le_succ _), below_s4 B4.out (Nat.le_refl _) _ _ _ _⟩
  · have NC := Lib.hid (noCon_ad HH.out hno)
    have J5 : Hid (Blk (w3.alloc (.cells #[.int .i64 0, .slice none 0 0, .string .empty, .int .i64 0] 27)) w.heap.size 27 #[.int .i64 0, .slice none 0 0, .string .empty, .int .i64 0]) := Lib.hid ((K2.out.kept b3).alloc _)
    have B5 : Hid (Below w.heap.size w (w3.alloc (.cells #[.int .i64 0, .slice none 0 0, .string .empty, .int .i64 0] 27))) := Lib.hid ((B2.out.trans (b3.mono B2.out.size)).alloc (B2.out.trans (b3.mono B2.out.size)).size _)
    clear hno b3 K2 B2
    go_wp2_with fail
    refine (impl_ConnectText_any 0 _ .empty 0 [] _ (Own.nil_ _ 0).ints (by decide) (HT.out.below B5.out)).mono ?_
    rintro e w4 ⟨rfl, b4⟩
    rw [zero_con]
    have J4 := Lib.hid (J5.out.kept b4)
    have B4 := Lib.hid (B5.out.trans (b4.mono B5.out.size))
    have j0 : w4.cell? ⟨w.heap.size, 0, none⟩ = some (.int .i64 0) := J4.out.cell 0
    have j1 : w4.cell? ⟨w.heap.size, 1, none⟩ = some (.slice none 0 0) := J4.out.cell 1
    have j2 : w4.cell? ⟨w.heap.size, 2, none⟩ = some (.string .empty) := J4.out.cell 2
    have j3 : w4.cell? ⟨w.heap.size, 3, none⟩ = some (.int .i64 0) := J4.out.cell 3
    have f0 := J4.out.free 0
    have f1 := J4.out.free 1
    have f2 := J4.out.free 2
    have f3 := J4.out.free 3
    clear b4 J5 B5
    go_wp2_with fail
    refine bodyPost_ret (v := .tuple #[.agg #[.int .i64 0, .slice none 0 0, .string .empty, .int .i64 0], .int .i64 0, .bool false]) (by simp [results, Tryd.results7, go_sem, j0, j1, j2, j3]; rfl) rfl ?_
    exact .inr ⟨rfl, NC.out, below_s4 B4.out (Nat.le_refl _) _ _ _ _⟩
end Go.Proofs.YtjnnmihbkieblaaDoor

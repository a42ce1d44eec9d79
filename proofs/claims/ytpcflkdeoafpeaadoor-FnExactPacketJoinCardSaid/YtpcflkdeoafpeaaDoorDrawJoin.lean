/-
  The drawn list of packets. Conditions: none.
-/
import Derived.Test.YtpcflkdeoafpeaaDoorCutMany
import Derived.Test.YtpcflkdeoafpeaaDoorCutLaw
import Derived.Test.YtpcflkdeoafpeaaDoorDrawAd2
import Derived.Test.YtpcflkdeoafpeaaDoorChanged
import Derived.Deep.RegionHeld3
namespace Go.Proofs.YtpcflkdeoafpeaaDoor
open Go.RowKit

/-- Behind a drawn list of packets. -/
def DrewJn (w : World) (e : Ending) (w' : World) : Prop :=
  ∃ v zs, e = .returned v ∧ Pkts w' w.heap.size v zs ∧ ReadK w' zs ∧ (∀ z ∈ zs, z.1.2.2.2.1.size ≤ 21) ∧ zs.length ≤ 21 ∧ Below w.heap.size w w'
theorem Rd6.ownK {w w' : World} {hi g p base : Nat} {v : Value} {zs : List ((Int × Int × List Int × ByteArray × Int × List Int) × Value × Value)} (_hr : Rd6 w hi g p) (h : OwnK w base v zs) (hg : w.grownBy w' (some g)) (hlt : g < base) : OwnK w' base v zs :=
  h.keep hg (.inr fun e => by have := (World.ownsRow.lt h g e).1; omega)
theorem Rd6.rowsK {w w' : World} {hi g p base : Nat} {zs : List ((Int × Int × List Int × ByteArray × Int × List Int) × Value × Value)} (hr : Rd6 w hi g p) (h : RowsK w base zs) (hg : w.grownBy w' (some g)) : RowsK w' base zs :=
  fun z hz => ⟨hr.own (h z hz).1 hg, hr.own (h z hz).2 hg⟩
theorem cutR_names {k : Int} {qs : List Int} {nm : ByteArray} {p : Int} {ds : List Int} {s : Int} {zs : List ((Int × Int × List Int × ByteArray × Int × List Int) × Value × Value)} (h : zs.map Prod.fst = cutR k qs nm p ds s) (hn : nm.size ≤ 21) (hd : ds.length ≤ 20) : (∀ z ∈ zs, z.1.2.2.2.1.size ≤ 21 ∧ 0 ≤ z.1.2.2.2.2.1 ∧ z.1.2.2.2.2.1 ≤ 65535) ∧ zs.length ≤ 21 := by
  cases ho : cutOk k qs nm p ds s
  · rw [cutR_not ho] at h
    have : zs = [] := List.map_eq_nil_iff.1 h
    subst this
    exact ⟨fun z hz => (by cases hz), by simp⟩
  · obtain ⟨n, h1, _, rfl⟩ := cut_size ho
    rw [cutR_ok ho] at h
    refine ⟨fun z hz => ?_, ?_⟩
    · obtain ⟨i, hi⟩ := List.getElem?_of_mem hz
      rw [cut_at h hi]
      exact ⟨hn, adOk_port (cut_ad ho)⟩
    · have h2 := cut_len h
      have h3 := cutM_le (L := ds.length) h1
      rw [show ((n : Nat) : Int).toNat = n from rfl] at h2
      omega
/-- A cell of a row of packets is stored. -/
theorem pj_setT : ∀ (zs : List ((Int × Int × List Int × ByteArray × Int × List Int) × Value × Value)) (j t : Nat) (z z' : (Int × Int × List Int × ByteArray × Int × List Int) × Value × Value) (u : Value), zs[j]? = some z → t < 6 → pkc z' = (pkc z).set t u → (kv zs).set (j * 6 + t) u = kv (zs.set j z')
  | [], j, t, z, z', u, h, _, _ => by simp at h
  | y :: r, 0, t, z, z', u, h, ht, he => by
    have : y = z := by simpa using h
    subst this
    show (pkc y ++ kv r).set (0 * 6 + t) u = pkc z' ++ kv r
    rw [Nat.zero_mul, Nat.zero_add, List.set_append_left _ _ (by simpa [pkc] using ht), he]
  | y :: r, j + 1, t, z, z', u, h, ht, he => by
    have h' : r[j]? = some z := by simpa using h
    show (pkc y ++ kv r).set ((j + 1) * 6 + t) u = pkc y ++ kv (r.set j z')
    rw [← pj_setT r j t z z' u h' ht he, List.set_append_right _ _ (by simp [pkc]; omega)]
    congr 2
    simp [pkc]
    omega
theorem OwnK.setJ {w : World} {base b c n j t : Nat} {zs : List ((Int × Int × List Int × ByteArray × Int × List Int) × Value × Value)} {z z' : (Int × Int × List Int × ByteArray × Int × List Int) × Value × Value} {u : Value} (h : OwnK w base (.slice (some ⟨b, 0, none⟩) n c) zs) (hz : zs[j]? = some z) (ht : t < 6) (he : pkc z' = (pkc z).set t u) :
    OwnK (w.setCell ⟨b, j * 6 + t, none⟩ u) base (.slice (some ⟨b, 0, none⟩) n c) (zs.set j z') := by
  have hn : n = zs.length := by
    obtain ⟨A, c', e, _⟩ := h.form
    injection e
  subst hn
  have h1 := (World.ownsRow.stored h (j * 6 + t) u).1
  unfold OwnK
  rw [List.length_set, ← pj_setT zs j t z z' u hz ht he]
  exact h1
theorem RowsK.setJ {w : World} {base b i o : Nat} {zs : List ((Int × Int × List Int × ByteArray × Int × List Int) × Value × Value)} {z : (Int × Int × List Int × ByteArray × Int × List Int) × Value × Value} (h : RowsK w base zs) (hs : Seg w 32 b 0 (kv zs)) (hz : zs[i]? = some z) (u : Value) (pt : Int) :
    RowsK (w.setCell ⟨b, o, none⟩ u) base (zs.set i ((z.1.1, z.1.2.1, z.1.2.2.1, z.1.2.2.2.1, pt, z.1.2.2.2.2.2), z.2)) := by
  intro y hy
  rcases List.mem_or_eq_of_mem_set hy with hy | rfl
  · exact ⟨(h y hy).1.farSeg hs, (h y hy).2.farSeg hs⟩
  · have := h z (List.mem_of_getElem? hz)
    exact ⟨this.1.farSeg hs, this.2.farSeg hs⟩
theorem own_seg {w : World} {base b n c : Nat} {zs : List ((Int × Int × List Int × ByteArray × Int × List Int) × Value × Value)} (h : OwnK w base (.slice (some ⟨b, 0, none⟩) n c) zs) (h1 : 1 < zs.length) : Seg w 32 b 0 (kv zs) := by
  obtain ⟨A, c', e, h2, h3, h4⟩ := h.pkts.open_
  injection e with e1 e2 e3
  subst e1 e2 e3
  obtain ⟨b', o', e4, h5, _, hs⟩ := h4.resolve_left (fun h => by rw [h] at h1; simp at h1)
  injection e4 with e4
  injection e4 with e5 e6
  subst e5 e6
  exact hs
theorem pk_tail {w : World} {lo b n c : Nat} {zs : List ((Int × Int × List Int × ByteArray × Int × List Int) × Value × Value)} (h : Pkts w lo (.slice (some ⟨b, 0, none⟩) n c) zs) (h1 : 1 < zs.length) : Pkts w lo (.slice (some ⟨b, 0 + 1 * 6, none⟩) (n - 1) (c - 1)) (zs.drop 1) := by
  obtain ⟨A, c', e, h2, h3, h4⟩ := h.open_
  injection e with e1 e2 e3
  subst e1 e2 e3
  obtain ⟨b', o', e4, h5, _, hs⟩ := h4.resolve_left (fun h => by rw [h] at h1; simp at h1)
  injection e4 with e4
  injection e4 with e5 e6
  subst e5 e6
  have hk : kv (zs.drop 1) = ((kv zs).drop 6).take ((zs.length - 1) * 6) := by
    match zs, h1 with
    | z :: r, _ =>
      have : kv (z :: r) = pkc z ++ kv r := by simp [kv]
      rw [this, List.drop_append_of_le_length (by simp [pkc])]
      simp [pkc]
      rw [List.take_of_length_le (by rw [kv_length]; exact Nat.le_refl _)]
  have hp := hs.part (k := 6) (m := (zs.length - 1) * 6)
  rw [← hk] at hp
  refine ⟨by rw [kv_length], _, _, by rw [List.length_drop], by rw [List.length_drop]; omega, by unfold maxLen; omega, .inr ⟨b, 0 + 1 * 6, rfl, h5, hp⟩⟩

set_option maxRecDepth 100000 in
set_option maxHeartbeats 4000000 in
theorem DrawPacketJoin_any (v : Value) (bs : List Int) (w : World) (hv : Came .u8 w w.heap.size v bs) : Calls Tryd.prog 5 #[v] w fun e w' => DrewJn w e w' := by
  go_enter Tryd.func5, Tryd.ntmps5
  go_wp2_with fail
  refine (l6Open_any _ bs w.heap.size _ hv (Nat.le_refl _)).mono ?_
  rintro e w1 ⟨rfl, r1, b1⟩
  have R1 := Lib.hid r1
  have B1 := Lib.hid b1
  have zr := r1.lt
  clear r1 b1
  go_wp2_with fail
  refine (l91Address_any w.heap.size w.heap.size 0 _ R1.out (by omega)).mono ?_
  rintro e w2 ⟨k, q, qs, nm, pt, p2, rfl, o2, l2, hs, hp2, r2, g2⟩
  obtain ⟨A, c, rfl, _, _, _⟩ := o2.form
  have z2 := g2.size
  have hns : nm.size < 4294967281 := by omega
  obtain ⟨V2, hV2⟩ : ∃ V2, w2.alloc (.cells #[.int .i64 k, .slice A qs.length c, .string nm, .int .i64 pt] 30) = V2 := ⟨_, rfl⟩
  have X2 : Hid (Blk V2 w2.heap.size 30 #[.int .i64 k, .slice A qs.length c, .string nm, .int .i64 pt]) := Lib.hid (by rw [← hV2]; exact Blk.new _ _ _)
  have O2 : Hid (Own V2 (w.heap.size + 1) (.slice A qs.length c) qs) := Lib.hid (by rw [← hV2]; exact (o2.more (by omega)).alloc _)
  have R2 : Hid (Rd6 V2 w.heap.size w.heap.size p2) := Lib.hid (by rw [← hV2]; exact r2.alloc _)
  have B2 : Hid (Below w.heap.size w V2) := Lib.hid (by
    rw [← hV2]
    have h := below_only B1.out g2 (by omega) (Nat.le_refl _)
    exact h.alloc h.size _)
  have zV2 : V2.heap.size = w2.heap.size + 1 := by rw [← hV2]; simp
  clear r2 o2 g2 R1 B1
  go_wp2_with fail
  clear hV2
  refine (l91Bytes_any w.heap.size w.heap.size p2 20 _ R2.out (by omega) (by omega)).mono ?_
  rintro e w3 ⟨d, ds, p3, rfl, o3, l3, hp3, r3, g3⟩
  obtain ⟨D, e1, rfl, _, _, _⟩ := o3.form
  have X3 := Lib.hid (X2.out.grown g3 (by intro h; injection h with h; omega))
  have O3 := Lib.hid (R2.out.own O2.out g3)
  have D3 : Hid (Own w3 (w.heap.size + 1) (.slice D ds.length e1) ds) := Lib.hid (o3.more (by omega))
  have R3 := Lib.hid r3
  have B3 := Lib.hid (below_only B2.out g3 (by omega) (Nat.le_refl _))
  have z3 := g3.size
  have c0 : w3.cell? ⟨w2.heap.size, 0, none⟩ = some (.int .i64 k) := X3.out.cell 0
  have c1 : w3.cell? ⟨w2.heap.size, 1, none⟩ = some (.slice A qs.length c) := X3.out.cell 1
  have c2 : w3.cell? ⟨w2.heap.size, 2, none⟩ = some (.string nm) := X3.out.cell 2
  have c3 : w3.cell? ⟨w2.heap.size, 3, none⟩ = some (.int .i64 pt) := X3.out.cell 3
  clear r3 o3 g3 X2 O2 R2 B2
  go_wp2_with fail
  have S3 : Hid (w3.drew.cell? ⟨w2.heap.size, 0, none⟩ = some (Value.int .i64 k) ∧ w3.drew.cell? ⟨w2.heap.size, 1, none⟩ = some (.slice A qs.length c) ∧ w3.drew.cell? ⟨w2.heap.size, 2, none⟩ = some (.string nm) ∧ w3.drew.cell? ⟨w2.heap.size, 3, none⟩ = some (.int .i64 pt) ∧ Below w.heap.size w w3.drew) := Lib.hid ⟨c0, c1, c2, c3, B3.out.drew⟩
  go_region_held3 (fun W => W.cell? ⟨w2.heap.size, 0, none⟩ = some (Value.int .i64 k) ∧ W.cell? ⟨w2.heap.size, 1, none⟩ = some (.slice A qs.length c) ∧ W.cell? ⟨w2.heap.size, 2, none⟩ = some (.string nm) ∧ W.cell? ⟨w2.heap.size, 3, none⟩ = some (.int .i64 pt) ∧ Below w.heap.size w W)
    (first | with_reducible exact S5.out | with_reducible exact S4.out | exact S3.out)
    (first
      | (go_at_call 20; refine (pick_any w.heap.size w.heap.size p3 8 _ R3.out.drew (by omega) (by omega)).mono ?_; rintro e w4 ⟨x4, rfl, hx4, r4, g4⟩; have X4 := Lib.hid (X3.out.drew.grown g4 (by intro h; injection h with h; omega)); have O4 := Lib.hid (R3.out.drew.own O3.out.drew g4); have D4 := Lib.hid (R3.out.drew.own D3.out.drew g4); have R4 := Lib.hid r4; have B4 := Lib.hid (below_only B3.out.drew g4 B3.out.drew.size (Nat.le_refl _)); have z4 : w3.heap.size ≤ w4.heap.size := g4.size; have S4 : Hid (w4.cell? ⟨w2.heap.size, 0, none⟩ = some (Value.int .i64 k) ∧ w4.cell? ⟨w2.heap.size, 1, none⟩ = some (.slice A qs.length c) ∧ w4.cell? ⟨w2.heap.size, 2, none⟩ = some (.string nm) ∧ w4.cell? ⟨w2.heap.size, 3, none⟩ = some (.int .i64 pt) ∧ Below w.heap.size w w4) := Lib.hid ⟨X4.out.cell 0, X4.out.cell 1, X4.out.cell 2, X4.out.cell 3, B4.out⟩; have hx4a := hx4.1; have hx4b := hx4.2; clear r4 g4 hx4)
      | (go_at_call 19; refine (spec_PacketCut_any k _ nm pt qs _ ds _ _ O4.out.ints.zero D4.out.ints.zero hns).mono ?_; rintro e w5 ⟨v5, zs, rfl, f5, o5, r5, ap5, b5⟩; obtain ⟨A5, c5, rfl, hc5, hm5, hA5⟩ := o5.form; have R5 := Lib.hid (R4.out.below b5); have B5 := Lib.hid (B4.out.trans (b5.mono B4.out.size)); have X5 := Lib.hid (X4.out.kept b5); have S5 : Hid (w5.cell? ⟨w2.heap.size, 0, none⟩ = some (Value.int .i64 k) ∧ w5.cell? ⟨w2.heap.size, 1, none⟩ = some (.slice A qs.length c) ∧ w5.cell? ⟨w2.heap.size, 2, none⟩ = some (.string nm) ∧ w5.cell? ⟨w2.heap.size, 3, none⟩ = some (.int .i64 pt) ∧ Below w.heap.size w w5) := Lib.hid ⟨X5.out.cell 0, X5.out.cell 1, X5.out.cell 2, X5.out.cell 3, B5.out⟩; have P5 := Lib.hid o5; have Q5 := Lib.hid r5; have NF := Lib.hid (cutR_names f5 hs l3); have AP := Lib.hid ap5; have z5 := b5.size; clear f5 o5 r5 ap5 b5)
      | fail)
  all_goals
    rename_i hS
    clear hS
    by_cases h1 : 1 < zs.length
    · have h1' : (1 : Int) < (zs.length : Int) := by omega
      obtain ⟨b, rfl, hb, hbl⟩ := hA5.resolve_left (fun h => by rw [h] at h1; simp at h1)
      go_wp2_with fail
      refine (pick_any w.heap.size w.heap.size (p3 + 1) 6 _ R5.out (by omega) (by omega)).mono ?_
      rintro e w6 ⟨x6, rfl, hx6, r6, g6⟩
      have P6 := Lib.hid (R5.out.ownK P5.out g6 (by omega))
      have Q6 := Lib.hid (R5.out.rowsK Q5.out g6)
      have B6 := Lib.hid (below_only B5.out g6 (by omega) (Nat.le_refl _))
      clear r6 g6 P5 Q5 R5
      by_cases e0 : x6 = 0
      · subst e0
        go_wp2_with fail
        go_ret
        exact ⟨_, zs.drop 1, rfl, pk_tail (Sl.more P6.out.pkts (by omega)) h1, fun z hz => Q6.out.read z (List.mem_of_mem_drop hz), fun z hz => (NF.out.1 z (List.mem_of_mem_drop hz)).1, by rw [List.length_drop]; have := NF.out.2; omega, B6.out⟩
      · by_cases e1_ : x6 = 1
        · subst e1_
          obtain ⟨z, hz⟩ : ∃ z, zs[1]? = some z := ⟨zs[1]'h1, List.getElem?_eq_getElem _⟩
          have hs6 := own_seg P6.out h1
          have HS6 := Lib.hid hs6
          have HZ := Lib.hid hz
          have x4_ : w6.cell? ⟨b, 10, none⟩ = some (.int .i64 z.1.2.2.2.2.1) := (pk_cells hs6 hz).2.2.2.2.1
          have f4_ : w6.frozen? ⟨b, 10, none⟩ = false := hs6.frozen 10
          have hpz := (NF.out.1 z (List.mem_of_getElem? hz)).2
          have hnm := (NF.out.1 z (List.mem_of_getElem? hz)).1
          obtain ⟨P, hP⟩ : ∃ P, z.1.2.2.2.2.1 = P := ⟨_, rfl⟩
          rw [hP] at x4_ hpz
          have J : Pkts (w6.setCell ⟨b, 10, none⟩ (.int .i64 ((P + 1) % 65536))) w4.heap.size (.slice (some ⟨b, 0, none⟩) zs.length c5) (zs.set 1 ((z.1.1, z.1.2.1, z.1.2.2.1, z.1.2.2.2.1, (P + 1) % 65536, z.1.2.2.2.2.2), z.2)) := (OwnK.setJ (t := 4) (u := (.int .i64 ((P + 1) % 65536))) (z' := ((z.1.1, z.1.2.1, z.1.2.2.1, z.1.2.2.2.1, (P + 1) % 65536, z.1.2.2.2.2.2), z.2)) P6.out hz (by omega) rfl).pkts
          have JR := (RowsK.setJ (o := 10) Q6.out hs6 hz (.int .i64 ((P + 1) % 65536)) ((P + 1) % 65536)).read
          have JB := B6.out.setCell (p := ⟨b, 10, none⟩) (show w.heap.size ≤ b by omega) (.int .i64 ((P + 1) % 65536))
          have JP := Sl.more J (show w.heap.size ≤ w4.heap.size by omega)
          have JH := Lib.hid (And.intro JP (And.intro JR JB))
          clear hs6 hz hP J JR JB JP
          go_wp2_with fail
          go_ret
          refine ⟨_, zs.set 1 ((z.1.1, z.1.2.1, z.1.2.2.1, z.1.2.2.2.1, (P + 1) % 65536, z.1.2.2.2.2.2), z.2), rfl, JH.out.1, JH.out.2.1, ?_, by rw [List.length_set]; exact NF.out.2, JH.out.2.2⟩
          intro y hy
          rcases List.mem_or_eq_of_mem_set hy with hy | rfl
          · exact (NF.out.1 y hy).1
          · exact hnm
        · go_wp2_with fail
          go_ret
          exact ⟨_, zs, rfl, Sl.more P6.out.pkts (by omega), Q6.out.read, fun z hz => (NF.out.1 z hz).1, NF.out.2, B6.out⟩
    · have h1' : ¬ (1 : Int) < (zs.length : Int) := by omega
      go_wp2_with fail
      go_ret
      exact ⟨_, zs, rfl, Sl.more P5.out.pkts (by omega), Q5.out.read, fun z hz => (NF.out.1 z hz).1, NF.out.2, B5.out⟩
end Go.Proofs.YtpcflkdeoafpeaaDoor

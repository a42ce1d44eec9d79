/-
  The laws' own samePackets at two lists of packets with the same data. Conditions: the lists, their quads and data are read.
  The drawn address, data and size of fragments: in memory of the call's own. Conditions: none.
  Plain laws on fragments for the laws of their own. Conditions: none.
-/
import Derived.Test.YtdmkacbjdojkpaaDoorPkts
import Derived.Test.YtdmkacbjdojkpaaDoorPkLaws2
import Derived.Test.YtdmkacbjdojkpaaDoorAppend
import Derived.Test.YtdmkacbjdojkpaaDoorDrawPk
namespace Go.Proofs.YtdmkacbjdojkpaaDoor
open Go.RowKit

/-- The packets' quads and data read as lists of integers. -/
def ReadK (w : World) (zs : List ((Int × Int × List Int × ByteArray × Int × List Int) × Value × Value)) : Prop := ∀ z ∈ zs, Ints w 0 z.2.1 z.1.2.2.1 ∧ Ints w 0 z.2.2 z.1.2.2.2.2.2
theorem RowsK.read {w : World} {base : Nat} {zs : List ((Int × Int × List Int × ByteArray × Int × List Int) × Value × Value)} (h : RowsK w base zs) : ReadK w zs := fun z hz => ⟨(h z hz).1.ints.zero, (h z hz).2.ints.zero⟩
theorem ReadK.below {w w' : World} {zs : List ((Int × Int × List Int × ByteArray × Int × List Int) × Value × Value)} (h : ReadK w zs) (hb : Below w.heap.size w w') : ReadK w' zs := fun z hz => ⟨(h z hz).1.below hb, (h z hz).2.below hb⟩
theorem same_fst {zs ys : List ((Int × Int × List Int × ByteArray × Int × List Int) × Value × Value)} {j : Nat} {z y : ((Int × Int × List Int × ByteArray × Int × List Int) × Value × Value)} (h : zs.map Prod.fst = ys.map Prod.fst) (hz : zs[j]? = some z) (hy : ys[j]? = some y) : y.1 = z.1 := by
  have h1 : (zs.map Prod.fst)[j]? = some z.1 := by rw [List.getElem?_map, hz]; rfl
  have h2 : (ys.map Prod.fst)[j]? = some y.1 := by rw [List.getElem?_map, hy]; rfl
  rw [h, h2] at h1
  exact Option.some.inj h1
theorem pk_cells {w : World} {b o j : Nat} {zs : List ((Int × Int × List Int × ByteArray × Int × List Int) × Value × Value)} {z : ((Int × Int × List Int × ByteArray × Int × List Int) × Value × Value)} (h : Seg w 38 b o (kv zs)) (hz : zs[j]? = some z) :
    w.cell? ⟨b, o + j * 6, none⟩ = some (.int .i64 z.1.1) ∧ w.cell? ⟨b, o + j * 6 + 1, none⟩ = some (.int .i64 z.1.2.1) ∧ w.cell? ⟨b, o + j * 6 + 2, none⟩ = some z.2.1 ∧ w.cell? ⟨b, o + j * 6 + 3, none⟩ = some (.string z.1.2.2.2.1) ∧ w.cell? ⟨b, o + j * 6 + 4, none⟩ = some (.int .i64 z.1.2.2.2.2.1) ∧ w.cell? ⟨b, o + j * 6 + 5, none⟩ = some z.2.2 := by
  refine ⟨?_, ?_, ?_, ?_, ?_, ?_⟩
  · exact h.cell (kv_get zs j 0 z hz (by omega))
  · exact h.cell (kv_get zs j 1 z hz (by omega))
  · exact h.cell (kv_get zs j 2 z hz (by omega))
  · exact h.cell (kv_get zs j 3 z hz (by omega))
  · exact h.cell (kv_get zs j 4 z hz (by omega))
  · exact h.cell (kv_get zs j 5 z hz (by omega))

set_option maxRecDepth 100000 in
set_option maxHeartbeats 2000000 in
theorem samePackets_same (v u : Value) (zs ys : List ((Int × Int × List Int × ByteArray × Int × List Int) × Value × Value)) (w : World) (hv : Pkts w 0 v zs) (hu : Pkts w 0 u ys) (rv : ReadK w zs) (ru : ReadK w ys) (he : zs.map Prod.fst = ys.map Prod.fst) :
    Calls Tryd.prog 14 #[v, u] w fun e w' => e = .returned (.bool true) ∧ Below w.heap.size w w' := by
  obtain ⟨A, c, rfl, hc, hm, hA⟩ := hv.open_
  obtain ⟨A2, c2, rfl, hc2, hm2, hA2⟩ := hu.open_
  have hl : ys.length = zs.length := by
    have h := congrArg List.length he
    simpa using h.symm
  obtain ⟨n, hn⟩ : ∃ n, zs.length = n := ⟨_, rfl⟩
  have HN := Lib.hid hn
  have HN2 : Hid (ys.length = n) := Lib.hid (hl.trans hn)
  rw [hl] at hc2 ⊢
  rw [hn] at hc hc2 ⊢
  have HA := Lib.hid hA
  have HA2 := Lib.hid hA2
  have RV := Lib.hid rv
  have RU := Lib.hid ru
  have HE := Lib.hid he
  clear hv hu hn hA hA2 hl rv ru he
  go_enter Tryd.func14, Tryd.ntmps14
  go_wp2_with fail
  go_loopw [5] (fun i wr => ∃ k : Nat, k ≤ n ∧ i = .int .i64 k ∧ Hid (Below w.heap.size w wr)) (fun i _ => n - (intOf i).toNat)
  case atStart => exact ⟨0, Nat.zero_le _, rfl, Lib.hid (Below.refl _ _)⟩
  case round =>
    obtain ⟨j, hk, rfl, HB⟩ := hrel
    by_cases hlt : j < n
    · have hki : (j : Int) < (n : Int) := by omega
      have hki0 : (0 : Int) ≤ (j : Int) := by omega
      obtain ⟨b, o, rfl, _, hb, hs⟩ := HA.out.resolve_left (fun h => by have := HN.out; rw [h] at this; simp at this; omega)
      obtain ⟨b', o', rfl, _, hb', hs'⟩ := HA2.out.resolve_left (fun h => by have := HN2.out; rw [h] at this; simp at this; omega)
      obtain ⟨z, hz⟩ : ∃ z, zs[j]? = some z := ⟨zs[j]'(by have := HN.out; omega), List.getElem?_eq_getElem _⟩
      obtain ⟨y, hy⟩ : ∃ y, ys[j]? = some y := ⟨ys[j]'(by have := HN2.out; omega), List.getElem?_eq_getElem _⟩
      have hzy : y.1 = z.1 := same_fst HE.out hz hy
      obtain ⟨hq, hd⟩ := RV.out z (List.mem_of_getElem? hz)
      obtain ⟨hq', hd'⟩ := RU.out y (List.mem_of_getElem? hy)
      rw [hzy] at hq' hd'
      have C := pk_cells (hs.below HB.out hs.lt) hz
      have C' := pk_cells (hs'.below HB.out hs'.lt) hy
      rw [hzy] at C'
      obtain ⟨⟨f, k, qs, nm, p, ds⟩, q1, d1⟩ := z
      obtain ⟨y1, q2, d2⟩ := y
      dsimp only at hq hd hq' hd' C C'
      obtain ⟨Aq, cq, rfl, _, _, _⟩ := hq.open_
      obtain ⟨Ad, cd, rfl, _, _, _⟩ := hd.open_
      obtain ⟨Bq, eq, rfl, _, _, _⟩ := hq'.open_
      obtain ⟨Bd, ed, rfl, _, _, _⟩ := hd'.open_
      have QH := Lib.hid (hq.below HB.out)
      have DH := Lib.hid (hd.below HB.out)
      have QH' := Lib.hid (hq'.below HB.out)
      have DH' := Lib.hid (hd'.below HB.out)
      obtain ⟨c0, c1, c2_, c3, c4, c5⟩ := C
      obtain ⟨g0, g1, g2, g3, g4, g5⟩ := C'
      have hsz := HB.out.size
      clear hs hs' hz hy hzy hq hd hq' hd' HA HA2 hb hb'
      go_wp2_with fail
      refine region_tail 8 (by kernel_rfl) (by kernel_rfl) ?_
      simp only [List.take_succ_cons, List.take_zero, List.drop_succ_cons, List.drop_zero]
      obtain ⟨W2, hW2⟩ : ∃ W2, wr.drew = W2 := ⟨_, rfl⟩
      have a0 : W2.cell? ⟨b, o + j * 6, none⟩ = some (.int .i64 f) := by rw [← hW2]; exact c0
      have a1 : W2.cell? ⟨b, o + j * 6 + 1, none⟩ = some (.int .i64 k) := by rw [← hW2]; exact c1
      have a2 : W2.cell? ⟨b, o + j * 6 + 2, none⟩ = some (.slice Aq qs.length cq) := by rw [← hW2]; exact c2_
      have a3 : W2.cell? ⟨b, o + j * 6 + 3, none⟩ = some (.string nm) := by rw [← hW2]; exact c3
      have a4 : W2.cell? ⟨b, o + j * 6 + 4, none⟩ = some (.int .i64 p) := by rw [← hW2]; exact c4
      have a5 : W2.cell? ⟨b, o + j * 6 + 5, none⟩ = some (.slice Ad ds.length cd) := by rw [← hW2]; exact c5
      have x0 : W2.cell? ⟨b', o' + j * 6, none⟩ = some (.int .i64 f) := by rw [← hW2]; exact g0
      have x1 : W2.cell? ⟨b', o' + j * 6 + 1, none⟩ = some (.int .i64 k) := by rw [← hW2]; exact g1
      have x2 : W2.cell? ⟨b', o' + j * 6 + 2, none⟩ = some (.slice Bq qs.length eq) := by rw [← hW2]; exact g2
      have x3 : W2.cell? ⟨b', o' + j * 6 + 3, none⟩ = some (.string nm) := by rw [← hW2]; exact g3
      have x4 : W2.cell? ⟨b', o' + j * 6 + 4, none⟩ = some (.int .i64 p) := by rw [← hW2]; exact g4
      have x5 : W2.cell? ⟨b', o' + j * 6 + 5, none⟩ = some (.slice Bd ds.length ed) := by rw [← hW2]; exact g5
      have HB2 : Hid (Below w.heap.size w W2) := Lib.hid (by rw [← hW2]; exact HB.out.drew)
      have Q2 : Hid (Ints W2 0 (.slice Aq qs.length cq) qs) := Lib.hid (by rw [← hW2]; exact QH.out.drew)
      have D2 : Hid (Ints W2 0 (.slice Ad ds.length cd) ds) := Lib.hid (by rw [← hW2]; exact DH.out.drew)
      have Q2' : Hid (Ints W2 0 (.slice Bq qs.length eq) qs) := Lib.hid (by rw [← hW2]; exact QH'.out.drew)
      have D2' : Hid (Ints W2 0 (.slice Bd ds.length ed) ds) := Lib.hid (by rw [← hW2]; exact DH'.out.drew)
      rw [hW2]
      clear hW2 c0 c1 c2_ c3 c4 c5 g0 g1 g2 g3 g4 g5 HB QH DH QH' DH'
      repeat still_step
      refine wpStill_nil ?_
      go_wp2_with fail
      refine (samePacket_same f k _ _ nm p _ _ qs ds _ Q2.out Q2'.out D2.out D2'.out).mono ?_
      rintro e w3 ⟨rfl, b3⟩
      have HB3 := Lib.hid (HB2.out.trans (b3.mono HB2.out.size))
      clear b3
      go_wp2_with fail
      go_roundw
      case rel => exact ⟨j + 1, by omega, by go_num, HB3⟩
      case measure => simp [intOf]; omega
    · go_wp2_with fail
      go_ret
      exact ⟨rfl, HB.out⟩
set_option maxRecDepth 100000 in
set_option maxHeartbeats 2000000 in
theorem eqPacketS_same (v u : Value) (zs ys : List ((Int × Int × List Int × ByteArray × Int × List Int) × Value × Value)) (w : World) (hv : Pkts w 0 v zs) (hu : Pkts w 0 u ys) (rv : ReadK w zs) (ru : ReadK w ys) (he : zs.map Prod.fst = ys.map Prod.fst) :
    Calls Tryd.prog 22 #[v, u] w fun e w' => e = .returned (.bool true) ∧ Below w.heap.size w w' := by
  obtain ⟨A, c, rfl, hc, hm, hA⟩ := hv.open_
  obtain ⟨A2, c2, rfl, hc2, hm2, hA2⟩ := hu.open_
  have hl : ys.length = zs.length := by
    have h := congrArg List.length he
    simpa using h.symm
  obtain ⟨n, hn⟩ : ∃ n, zs.length = n := ⟨_, rfl⟩
  have HN := Lib.hid hn
  have HN2 : Hid (ys.length = n) := Lib.hid (hl.trans hn)
  rw [hl] at hc2 ⊢
  rw [hn] at hc hc2 ⊢
  have HA := Lib.hid hA
  have HA2 := Lib.hid hA2
  have RV := Lib.hid rv
  have RU := Lib.hid ru
  have HE := Lib.hid he
  clear hv hu hn hA hA2 hl rv ru he
  go_enter Tryd.func22, Tryd.ntmps22
  go_wp2_with fail
  go_loopw [5] (fun i wr => ∃ k : Nat, k ≤ n ∧ i = .int .i64 k ∧ Hid (Below w.heap.size w wr)) (fun i _ => n - (intOf i).toNat)
  case atStart => exact ⟨0, Nat.zero_le _, rfl, Lib.hid (Below.refl _ _)⟩
  case round =>
    obtain ⟨j, hk, rfl, HB⟩ := hrel
    by_cases hlt : j < n
    · have hki : (j : Int) < (n : Int) := by omega
      have hki0 : (0 : Int) ≤ (j : Int) := by omega
      obtain ⟨b, o, rfl, _, hb, hs⟩ := HA.out.resolve_left (fun h => by have := HN.out; rw [h] at this; simp at this; omega)
      obtain ⟨b', o', rfl, _, hb', hs'⟩ := HA2.out.resolve_left (fun h => by have := HN2.out; rw [h] at this; simp at this; omega)
      obtain ⟨z, hz⟩ : ∃ z, zs[j]? = some z := ⟨zs[j]'(by have := HN.out; omega), List.getElem?_eq_getElem _⟩
      obtain ⟨y, hy⟩ : ∃ y, ys[j]? = some y := ⟨ys[j]'(by have := HN2.out; omega), List.getElem?_eq_getElem _⟩
      have hzy : y.1 = z.1 := same_fst HE.out hz hy
      obtain ⟨hq, hd⟩ := RV.out z (List.mem_of_getElem? hz)
      obtain ⟨hq', hd'⟩ := RU.out y (List.mem_of_getElem? hy)
      rw [hzy] at hq' hd'
      have C := pk_cells (hs.below HB.out hs.lt) hz
      have C' := pk_cells (hs'.below HB.out hs'.lt) hy
      rw [hzy] at C'
      obtain ⟨⟨f, k, qs, nm, p, ds⟩, q1, d1⟩ := z
      obtain ⟨y1, q2, d2⟩ := y
      dsimp only at hq hd hq' hd' C C'
      obtain ⟨Aq, cq, rfl, _, _, _⟩ := hq.open_
      obtain ⟨Ad, cd, rfl, _, _, _⟩ := hd.open_
      obtain ⟨Bq, eq, rfl, _, _, _⟩ := hq'.open_
      obtain ⟨Bd, ed, rfl, _, _, _⟩ := hd'.open_
      have QH := Lib.hid (hq.below HB.out)
      have DH := Lib.hid (hd.below HB.out)
      have QH' := Lib.hid (hq'.below HB.out)
      have DH' := Lib.hid (hd'.below HB.out)
      obtain ⟨c0, c1, c2_, c3, c4, c5⟩ := C
      obtain ⟨g0, g1, g2, g3, g4, g5⟩ := C'
      have hsz := HB.out.size
      clear hs hs' hz hy hzy hq hd hq' hd' HA HA2 hb hb'
      go_wp2_with fail
      refine region_tail 8 (by kernel_rfl) (by kernel_rfl) ?_
      simp only [List.take_succ_cons, List.take_zero, List.drop_succ_cons, List.drop_zero]
      obtain ⟨W2, hW2⟩ : ∃ W2, wr.drew = W2 := ⟨_, rfl⟩
      have a0 : W2.cell? ⟨b, o + j * 6, none⟩ = some (.int .i64 f) := by rw [← hW2]; exact c0
      have a1 : W2.cell? ⟨b, o + j * 6 + 1, none⟩ = some (.int .i64 k) := by rw [← hW2]; exact c1
      have a2 : W2.cell? ⟨b, o + j * 6 + 2, none⟩ = some (.slice Aq qs.length cq) := by rw [← hW2]; exact c2_
      have a3 : W2.cell? ⟨b, o + j * 6 + 3, none⟩ = some (.string nm) := by rw [← hW2]; exact c3
      have a4 : W2.cell? ⟨b, o + j * 6 + 4, none⟩ = some (.int .i64 p) := by rw [← hW2]; exact c4
      have a5 : W2.cell? ⟨b, o + j * 6 + 5, none⟩ = some (.slice Ad ds.length cd) := by rw [← hW2]; exact c5
      have x0 : W2.cell? ⟨b', o' + j * 6, none⟩ = some (.int .i64 f) := by rw [← hW2]; exact g0
      have x1 : W2.cell? ⟨b', o' + j * 6 + 1, none⟩ = some (.int .i64 k) := by rw [← hW2]; exact g1
      have x2 : W2.cell? ⟨b', o' + j * 6 + 2, none⟩ = some (.slice Bq qs.length eq) := by rw [← hW2]; exact g2
      have x3 : W2.cell? ⟨b', o' + j * 6 + 3, none⟩ = some (.string nm) := by rw [← hW2]; exact g3
      have x4 : W2.cell? ⟨b', o' + j * 6 + 4, none⟩ = some (.int .i64 p) := by rw [← hW2]; exact g4
      have x5 : W2.cell? ⟨b', o' + j * 6 + 5, none⟩ = some (.slice Bd ds.length ed) := by rw [← hW2]; exact g5
      have HB2 : Hid (Below w.heap.size w W2) := Lib.hid (by rw [← hW2]; exact HB.out.drew)
      have Q2 : Hid (Ints W2 0 (.slice Aq qs.length cq) qs) := Lib.hid (by rw [← hW2]; exact QH.out.drew)
      have D2 : Hid (Ints W2 0 (.slice Ad ds.length cd) ds) := Lib.hid (by rw [← hW2]; exact DH.out.drew)
      have Q2' : Hid (Ints W2 0 (.slice Bq qs.length eq) qs) := Lib.hid (by rw [← hW2]; exact QH'.out.drew)
      have D2' : Hid (Ints W2 0 (.slice Bd ds.length ed) ds) := Lib.hid (by rw [← hW2]; exact DH'.out.drew)
      rw [hW2]
      clear hW2 c0 c1 c2_ c3 c4 c5 g0 g1 g2 g3 g4 g5 HB QH DH QH' DH'
      repeat still_step
      refine wpStill_nil ?_
      go_wp2_with fail
      refine (eqPacket_same f k _ _ nm p _ _ qs ds _ Q2.out Q2'.out D2.out D2'.out).mono ?_
      rintro e w3 ⟨rfl, b3⟩
      have HB3 := Lib.hid (HB2.out.trans (b3.mono HB2.out.size))
      clear b3
      go_wp2_with fail
      go_roundw
      case rel => exact ⟨j + 1, by omega, by go_num, HB3⟩
      case measure => simp [intOf]; omega
    · go_wp2_with fail
      go_ret
      exact ⟨rfl, HB.out⟩
end Go.Proofs.YtdmkacbjdojkpaaDoor
namespace Go.Proofs.YtdmkacbjdojkpaaDoor
open Go.RowKit

/-- Behind a draw of what is cut. -/
def DrewCut (w : World) (e : Ending) (w' : World) : Prop :=
  ∃ k q qs nm pt d ds s, e = .returned (.tuple #[.agg #[.int .i64 k, q, .string nm, .int .i64 pt], d, .int .i64 s]) ∧ Own w' w.heap.size q qs ∧ Own w' w.heap.size d ds ∧ qs.length ≤ 4 ∧ nm.size ≤ 21 ∧ ds.length ≤ 20 ∧ Below w.heap.size w w'

theorem four_far {w : World} {g B : Nat} {ty : TypeId} {cs : Array Value} {x y z u : Value} (h : Blk w g ty cs) (hb : g ≠ B) : Blk ((((w.setCell ⟨B, 0, none⟩ x).setCell ⟨B, 1, none⟩ y).setCell ⟨B, 2, none⟩ z).setCell ⟨B, 3, none⟩ u) g ty cs :=
  (((h.far (p := ⟨B, 0, none⟩) hb x).far (p := ⟨B, 1, none⟩) hb y).far (p := ⟨B, 2, none⟩) hb z).far (p := ⟨B, 3, none⟩) hb u
theorem four_below {B0 : Nat} {w W : World} {g : Nat} {x y z u : Value} (h : Below B0 w W) (hg : B0 ≤ g) : Below B0 w ((((W.setCell ⟨g, 0, none⟩ x).setCell ⟨g, 1, none⟩ y).setCell ⟨g, 2, none⟩ z).setCell ⟨g, 3, none⟩ u) :=
  (((h.setCell (p := ⟨g, 0, none⟩) hg x).setCell (p := ⟨g, 1, none⟩) hg y).setCell (p := ⟨g, 2, none⟩) hg z).setCell (p := ⟨g, 3, none⟩) hg u
theorem four_own {w : World} {base B : Nat} {s x y z u : Value} {zs : List Int} (h : Own w base s zs) (hb : B < base) : Own ((((w.setCell ⟨B, 0, none⟩ x).setCell ⟨B, 1, none⟩ y).setCell ⟨B, 2, none⟩ z).setCell ⟨B, 3, none⟩ u) base s zs :=
  (((h.far hb x).far hb y).far hb z).far hb u
set_option maxRecDepth 100000 in
set_option maxHeartbeats 4000000 in
theorem DrawPacketCut_any (v : Value) (bs : List Int) (w : World) (hv : Came .u8 w w.heap.size v bs) : Calls Tryd.prog 11 #[v] w fun e w' => DrewCut w e w' := by
  go_enter Tryd.func11, Tryd.ntmps11
  go_wp2_with fail
  refine (l6Open_any _ bs w.heap.size _ (hv.keep fun b hb => Below.heap_alloc w _ b hb) (by simp)).mono ?_
  rintro e w1 ⟨rfl, r1, b1⟩
  simp only [World.size_alloc] at r1 b1 ⊢
  have K1 := Lib.hid ((Blk.new w 25 #[.int .i64 0, .slice none 0 0, .string .empty, .int .i64 0]).below b1 (Nat.lt_succ_self _))
  have R1 := Lib.hid r1
  have B1 : Hid (Below w.heap.size w w1) := Lib.hid (((Below.refl _ _).alloc (Nat.le_refl _) _).trans (b1.mono (Nat.le_succ _)))
  have z1 := b1.size
  simp at z1
  have zr := r1.lt
  clear r1 b1
  go_wp2_with fail
  refine (l91Address_any w.heap.size (w.heap.size + 1) 0 _ R1.out (by omega)).mono ?_
  rintro e w2 ⟨k, q, qs, nm, pt, p2, rfl, o2, l2, hs, hp2, r2, g2⟩
  obtain ⟨A, c, rfl, _, _, _⟩ := o2.form
  have z2 := g2.size
  obtain ⟨V2, hV2⟩ : ∃ V2, w2.alloc (.cells #[.int .i64 k, .slice A qs.length c, .string nm, .int .i64 pt] 25) = V2 := ⟨_, rfl⟩
  have X2 : Hid (Blk V2 w2.heap.size 25 #[.int .i64 k, .slice A qs.length c, .string nm, .int .i64 pt]) := Lib.hid (by rw [← hV2]; exact Blk.new _ _ _)
  have K2 : Hid (Blk V2 w.heap.size 25 #[.int .i64 0, .slice none 0 0, .string .empty, .int .i64 0]) := Lib.hid (by rw [← hV2]; exact (K1.out.grown g2 (by intro h; injection h with h; omega)).alloc _)
  have O2 : Hid (Own V2 (w.heap.size + 1) (.slice A qs.length c) qs) := Lib.hid (by rw [← hV2]; exact (o2.more (by omega)).alloc _)
  have R2 : Hid (Rd6 V2 w.heap.size (w.heap.size + 1) p2) := Lib.hid (by rw [← hV2]; exact r2.alloc _)
  have B2 : Hid (Below w.heap.size w V2) := Lib.hid (by
    rw [← hV2]
    have h := below_only B1.out g2 (by omega) (Nat.le_succ _)
    exact h.alloc h.size _)
  have zV2 : V2.heap.size = w2.heap.size + 1 := by rw [← hV2]; simp
  clear r2 o2 g2 K1 R1 B1
  go_wp2_with fail
  clear hV2
  refine (l91Bytes_any w.heap.size (w.heap.size + 1) p2 20 _ R2.out (by omega) (by omega)).mono ?_
  rintro e w3 ⟨d, ds, p3, rfl, o3, l3, hp3, r3, g3⟩
  obtain ⟨D, e1, rfl, _, _, _⟩ := o3.form
  have X3 := Lib.hid (X2.out.grown g3 (by intro h; injection h with h; omega))
  have K3 := Lib.hid (K2.out.grown g3 (by intro h; injection h with h; omega))
  have O3 := Lib.hid (R2.out.own O2.out g3)
  have D3 : Hid (Own w3 (w.heap.size + 1) (.slice D ds.length e1) ds) := Lib.hid (o3.more (by omega))
  have R3 := Lib.hid r3
  have B3 := Lib.hid (below_only B2.out g3 (by omega) (Nat.le_succ _))
  have z3 := g3.size
  have c0 : w3.cell? ⟨w2.heap.size, 0, none⟩ = some (.int .i64 k) := X3.out.cell 0
  have c1 : w3.cell? ⟨w2.heap.size, 1, none⟩ = some (.slice A qs.length c) := X3.out.cell 1
  have c2 : w3.cell? ⟨w2.heap.size, 2, none⟩ = some (.string nm) := X3.out.cell 2
  have c3 : w3.cell? ⟨w2.heap.size, 3, none⟩ = some (.int .i64 pt) := X3.out.cell 3
  clear r3 o3 g3 X2 K2 O2 R2 B2
  go_wp2_with fail
  have nX : w2.heap.size ≠ w.heap.size := by omega
  have S3 : Hid (w3.drew.cell? ⟨w2.heap.size, 0, none⟩ = some (Value.int .i64 k) ∧ w3.drew.cell? ⟨w2.heap.size, 1, none⟩ = some (.slice A qs.length c) ∧ w3.drew.cell? ⟨w2.heap.size, 2, none⟩ = some (.string nm) ∧ w3.drew.cell? ⟨w2.heap.size, 3, none⟩ = some (.int .i64 pt) ∧ Below w.heap.size w w3.drew) := Lib.hid ⟨c0, c1, c2, c3, B3.out.drew⟩
  go_region_held3 (fun W => W.cell? ⟨w2.heap.size, 0, none⟩ = some (Value.int .i64 k) ∧ W.cell? ⟨w2.heap.size, 1, none⟩ = some (.slice A qs.length c) ∧ W.cell? ⟨w2.heap.size, 2, none⟩ = some (.string nm) ∧ W.cell? ⟨w2.heap.size, 3, none⟩ = some (.int .i64 pt) ∧ Below w.heap.size w W)
    (first | with_reducible exact S6.out | with_reducible exact S5.out | with_reducible exact S4.out | exact S3.out)
    (first
      | (go_at_call_of 36 (Value.int .i64 8); refine (pick_any w.heap.size (w.heap.size + 1) p3 8 _ R3.out.drew (by omega) (by omega)).mono ?_; rintro e w4 ⟨x4, rfl, hx4, r4, g4⟩; have X4 := Lib.hid (X3.out.drew.grown g4 (by intro h; injection h with h; omega)); have K4 := Lib.hid (K3.out.drew.grown g4 (by intro h; injection h with h; omega)); have O4 := Lib.hid (R3.out.drew.own O3.out.drew g4); have D4 := Lib.hid (R3.out.drew.own D3.out.drew g4); have R4 := Lib.hid r4; have B4 := Lib.hid (below_only B3.out.drew g4 B3.out.drew.size (Nat.le_succ _)); have S4 : Hid (w4.cell? ⟨w2.heap.size, 0, none⟩ = some (Value.int .i64 k) ∧ w4.cell? ⟨w2.heap.size, 1, none⟩ = some (.slice A qs.length c) ∧ w4.cell? ⟨w2.heap.size, 2, none⟩ = some (.string nm) ∧ w4.cell? ⟨w2.heap.size, 3, none⟩ = some (.int .i64 pt) ∧ Below w.heap.size w w4) := Lib.hid ⟨X4.out.cell 0, X4.out.cell 1, X4.out.cell 2, X4.out.cell 3, B4.out⟩; clear r4 g4)
      | (go_at_call_of 36 (Value.int .i64 20); refine (pick_any w.heap.size (w.heap.size + 1) (p3 + 1) 20 _ R4.out (by omega) (by omega)).mono ?_; rintro e w5 ⟨x5, rfl, hx5, r5, g5⟩; have X5 := Lib.hid (X4.out.grown g5 (by intro h; injection h with h; omega)); have K5 := Lib.hid (K4.out.grown g5 (by intro h; injection h with h; omega)); have O5 := Lib.hid (R4.out.own O4.out g5); have D5 := Lib.hid (R4.out.own D4.out g5); have B5 := Lib.hid (below_only B4.out g5 B4.out.size (Nat.le_succ _)); have S5 : Hid (w5.cell? ⟨w2.heap.size, 0, none⟩ = some (Value.int .i64 k) ∧ w5.cell? ⟨w2.heap.size, 1, none⟩ = some (.slice A qs.length c) ∧ w5.cell? ⟨w2.heap.size, 2, none⟩ = some (.string nm) ∧ w5.cell? ⟨w2.heap.size, 3, none⟩ = some (.int .i64 pt) ∧ Below w.heap.size w w5) := Lib.hid ⟨X5.out.cell 0, X5.out.cell 1, X5.out.cell 2, X5.out.cell 3, B5.out⟩; have f0 := K5.out.free 0; have f1 := K5.out.free 1; have f2 := K5.out.free 2; have f3 := K5.out.free 3; have r0 : w5.cell? ⟨w.heap.size, 0, none⟩ = some (.int .i64 0) := K5.out.cell 0; have r1 : w5.cell? ⟨w.heap.size, 1, none⟩ = some (.slice none 0 0) := K5.out.cell 1; have r2 : w5.cell? ⟨w.heap.size, 2, none⟩ = some (.string .empty) := K5.out.cell 2; have r3' : w5.cell? ⟨w.heap.size, 3, none⟩ = some (.int .i64 0) := K5.out.cell 3; have X6 := Lib.hid (four_far X5.out nX (x := .int .i64 k) (y := .slice A qs.length c) (z := .string nm) (u := .int .i64 pt)); have B6 := Lib.hid (four_below B5.out (Nat.le_refl w.heap.size) (x := .int .i64 k) (y := .slice A qs.length c) (z := .string nm) (u := .int .i64 pt)); have S6 : Hid (((((w5.setCell ⟨w.heap.size, 0, none⟩ (.int .i64 k)).setCell ⟨w.heap.size, 1, none⟩ (.slice A qs.length c)).setCell ⟨w.heap.size, 2, none⟩ (.string nm)).setCell ⟨w.heap.size, 3, none⟩ (.int .i64 pt)).cell? ⟨w2.heap.size, 0, none⟩ = some (Value.int .i64 k) ∧ ((((w5.setCell ⟨w.heap.size, 0, none⟩ (.int .i64 k)).setCell ⟨w.heap.size, 1, none⟩ (.slice A qs.length c)).setCell ⟨w.heap.size, 2, none⟩ (.string nm)).setCell ⟨w.heap.size, 3, none⟩ (.int .i64 pt)).cell? ⟨w2.heap.size, 1, none⟩ = some (.slice A qs.length c) ∧ ((((w5.setCell ⟨w.heap.size, 0, none⟩ (.int .i64 k)).setCell ⟨w.heap.size, 1, none⟩ (.slice A qs.length c)).setCell ⟨w.heap.size, 2, none⟩ (.string nm)).setCell ⟨w.heap.size, 3, none⟩ (.int .i64 pt)).cell? ⟨w2.heap.size, 2, none⟩ = some (.string nm) ∧ ((((w5.setCell ⟨w.heap.size, 0, none⟩ (.int .i64 k)).setCell ⟨w.heap.size, 1, none⟩ (.slice A qs.length c)).setCell ⟨w.heap.size, 2, none⟩ (.string nm)).setCell ⟨w.heap.size, 3, none⟩ (.int .i64 pt)).cell? ⟨w2.heap.size, 3, none⟩ = some (.int .i64 pt) ∧ Below w.heap.size w ((((w5.setCell ⟨w.heap.size, 0, none⟩ (.int .i64 k)).setCell ⟨w.heap.size, 1, none⟩ (.slice A qs.length c)).setCell ⟨w.heap.size, 2, none⟩ (.string nm)).setCell ⟨w.heap.size, 3, none⟩ (.int .i64 pt))) := Lib.hid ⟨X6.out.cell 0, X6.out.cell 1, X6.out.cell 2, X6.out.cell 3, B6.out⟩; clear r5 g5)
      | fail)
  all_goals
    rename_i hS
    clear hS
    go_wp2_with fail
    refine bodyPost_ret (v := .tuple #[.agg #[.int .i64 k, .slice A qs.length c, .string nm, .int .i64 pt], .slice D ds.length e1, .int .i64 _]) (by simp [results, Tryd.results11, go_sem, r0, r1, r2, r3']; rfl) rfl ?_
    exact ⟨k, _, qs, nm, pt, _, ds, _, rfl, (four_own O5.out (Nat.lt_succ_self _)).more (Nat.le_succ _), (four_own D5.out (Nat.lt_succ_self _)).more (Nat.le_succ _), l2, hs, l3, B6.out⟩
end Go.Proofs.YtdmkacbjdojkpaaDoor
namespace Go.Proofs.YtdmkacbjdojkpaaDoor
open Go.RowKit

theorem cut_size {k : Int} {qs : List Int} {nm : ByteArray} {p : Int} {ds : List Int} {s : Int} (h : cutOk k qs nm p ds s = true) : ∃ n : Nat, 1 ≤ n ∧ n ≤ 40 ∧ s = n := by
  unfold cutOk at h
  simp only [Bool.and_eq_true] at h
  have h3 := h.2
  simp [inR] at h3
  exact ⟨s.toNat, by omega, by omega, by omega⟩
theorem cutF_one {s L i : Nat} (h : L ≤ s) : cutF s L i = 0 := if_pos h
theorem cutF_more {s L i N : Nat} (hs : 1 ≤ s) (hN : cutM s L = N) (h1 : N ≠ 1) : cutF s L i = if i + 1 = N then (i : Int) + 1 + 128 else (i : Int) + 1 := by
  have h2 : ¬ L ≤ s := fun h => h1 (by rw [← hN]; exact (cutM_one hs).2 h)
  unfold cutF cutFr
  rw [if_neg h2, ← hN, cutM, if_neg h2]
theorem cut_count {k : Int} {qs : List Int} {nm : ByteArray} {p : Int} {ds : List Int} {s : Int} {zs : List ((Int × Int × List Int × ByteArray × Int × List Int) × Value × Value)} (h : cutOk k qs nm p ds s = true) (hz : zs.map Prod.fst = cutR k qs nm p ds s) : zs.length = cutM s.toNat ds.length := by
  rw [cutR_ok h] at hz
  exact cut_len hz
theorem cutOk_with {k : Int} {qs : List Int} {nm : ByteArray} {p : Int} {ds : List Int} {s t : Int} (h : cutOk k qs nm p ds s = true) (h1 : 1 ≤ t) (h2 : t ≤ 40) : cutOk k qs nm p ds t = true := by
  unfold cutOk at h ⊢
  simp only [Bool.and_eq_true] at h ⊢
  exact ⟨h.1, by simp [inR, h1, h2]⟩
theorem cutM_1 {L : Nat} (h : 1 ≤ L) : cutM 1 L = L := by
  unfold cutM
  split
  · omega
  · exact cutN_1 L
theorem cut_ad {k : Int} {qs : List Int} {nm : ByteArray} {p : Int} {ds : List Int} {s : Int} (h : cutOk k qs nm p ds s = true) : adOk k qs nm p = true := by
  unfold cutOk at h
  simp only [Bool.and_eq_true] at h
  exact h.1.1
/-- What is left behind a fragment. -/
theorem cut_left {j n L M D : Nat} (hM : L - j * n = M) (hD : D = min n M) : (((L - (j + 1) * n : Nat)) : Int) = (M : Int) - (D : Int) := by
  have : (j + 1) * n = j * n + n := by rw [Nat.add_mul, Nat.one_mul]
  omega
end Go.Proofs.YtdmkacbjdojkpaaDoor

/-
  The laws' own samePackets at two lists of packets with the same data. Conditions: the lists, their quads and data are read.
  The drawn address, data and size of fragments: in memory of the call's own. Conditions: none.
  Plain laws on fragments for the laws of their own. Conditions: none.
-/
import Derived.Test.YtpcflkdeoafpeaaDoorPkts
import Derived.Test.YtpcflkdeoafpeaaDoorPkLaws2
import Derived.Test.YtpcflkdeoafpeaaDoorAppend
import Derived.Test.YtpcflkdeoafpeaaDoorDrawPk
namespace Go.Proofs.YtpcflkdeoafpeaaDoor
open Go.RowKit

/-- The packets' quads and data read as lists of integers. -/
def ReadK (w : World) (zs : List ((Int × Int × List Int × ByteArray × Int × List Int) × Value × Value)) : Prop := ∀ z ∈ zs, Ints w 0 z.2.1 z.1.2.2.1 ∧ Ints w 0 z.2.2 z.1.2.2.2.2.2
theorem RowsK.read {w : World} {base : Nat} {zs : List ((Int × Int × List Int × ByteArray × Int × List Int) × Value × Value)} (h : RowsK w base zs) : ReadK w zs := fun z hz => ⟨(h z hz).1.ints.zero, (h z hz).2.ints.zero⟩
theorem ReadK.below {w w' : World} {zs : List ((Int × Int × List Int × ByteArray × Int × List Int) × Value × Value)} (h : ReadK w zs) (hb : Below w.heap.size w w') : ReadK w' zs := fun z hz => ⟨(h z hz).1.below hb, (h z hz).2.below hb⟩
theorem same_fst {zs ys : List ((Int × Int × List Int × ByteArray × Int × List Int) × Value × Value)} {j : Nat} {z y : ((Int × Int × List Int × ByteArray × Int × List Int) × Value × Value)} (h : zs.map Prod.fst = ys.map Prod.fst) (hz : zs[j]? = some z) (hy : ys[j]? = some y) : y.1 = z.1 := by
  have h1 : (zs.map Prod.fst)[j]? = some z.1 := by rw [List.getElem?_map, hz]; rfl
  have h2 : (ys.map Prod.fst)[j]? = some y.1 := by rw [List.getElem?_map, hy]; rfl
  rw [h, h2] at h1
  exact Option.some.inj h1
theorem pk_cells {w : World} {b o j : Nat} {zs : List ((Int × Int × List Int × ByteArray × Int × List Int) × Value × Value)} {z : ((Int × Int × List Int × ByteArray × Int × List Int) × Value × Value)} (h : Seg w 32 b o (kv zs)) (hz : zs[j]? = some z) :
    w.cell? ⟨b, o + j * 6, none⟩ = some (.int .i64 z.1.1) ∧ w.cell? ⟨b, o + j * 6 + 1, none⟩ = some (.int .i64 z.1.2.1) ∧ w.cell? ⟨b, o + j * 6 + 2, none⟩ = some z.2.1 ∧ w.cell? ⟨b, o + j * 6 + 3, none⟩ = some (.string z.1.2.2.2.1) ∧ w.cell? ⟨b, o + j * 6 + 4, none⟩ = some (.int .i64 z.1.2.2.2.2.1) ∧ w.cell? ⟨b, o + j * 6 + 5, none⟩ = some z.2.2 := by
  refine ⟨?_, ?_, ?_, ?_, ?_, ?_⟩
  · exact h.cell (kv_get zs j 0 z hz (by omega))
  · exact h.cell (kv_get zs j 1 z hz (by omega))
  · exact h.cell (kv_get zs j 2 z hz (by omega))
  · exact h.cell (kv_get zs j 3 z hz (by omega))
  · exact h.cell (kv_get zs j 4 z hz (by omega))
  · exact h.cell (kv_get zs j 5 z hz (by omega))

set_option maxRecDepth 100000 in
set_option maxHeartbeats 2000000 in
theorem eqPacketS_same (v u : Value) (zs ys : List ((Int × Int × List Int × ByteArray × Int × List Int) × Value × Value)) (w : World) (hv : Pkts w 0 v zs) (hu : Pkts w 0 u ys) (rv : ReadK w zs) (ru : ReadK w ys) (he : zs.map Prod.fst = ys.map Prod.fst) :
    Calls Tryd.prog 12 #[v, u] w fun e w' => e = .returned (.bool true) ∧ Below w.heap.size w w' := by
  obtain ⟨A, c, rfl, hc, hm, hA⟩ := hv.open_
  obtain ⟨A2, c2, rfl, hc2, hm2, hA2⟩ := hu.open_
  have hl : ys.length = zs.length := by
    have h := congrArg List.length he
    simpa using h.symm
  obtain ⟨n, hn⟩ : ∃ n, zs.length = n := ⟨_, rfl⟩
  have HN := Lib.hid hn
  have HN2 : Hid (ys.length = n) := Lib.hid (hl.trans hn)
  rw [hl] at hc2 ⊢
  rw [hn] at hc hc2 ⊢
  have HA := Lib.hid hA
  have HA2 := Lib.hid hA2
  have RV := Lib.hid rv
  have RU := Lib.hid ru
  have HE := Lib.hid he
  clear hv hu hn hA hA2 hl rv ru he
  go_enter Tryd.func12, Tryd.ntmps12
  go_wp2_with fail
  go_loopw [5] (fun i wr => ∃ k : Nat, k ≤ n ∧ i = .int .i64 k ∧ Hid (Below w.heap.size w wr)) (fun i _ => n - (intOf i).toNat)
  case atStart => exact ⟨0, Nat.zero_le _, rfl, Lib.hid (Below.refl _ _)⟩
  case round =>
    obtain ⟨j, hk, rfl, HB⟩ := hrel
    by_cases hlt : j < n
    · have hki : (j : Int) < (n : Int) := by omega
      have hki0 : (0 : Int) ≤ (j : Int) := by omega
      obtain ⟨b, o, rfl, _, hb, hs⟩ := HA.out.resolve_left (fun h => by have := HN.out; rw [h] at this; simp at this; omega)
      obtain ⟨b', o', rfl, _, hb', hs'⟩ := HA2.out.resolve_left (fun h => by have := HN2.out; rw [h] at this; simp at this; omega)
      obtain ⟨z, hz⟩ : ∃ z, zs[j]? = some z := ⟨zs[j]'(by have := HN.out; omega), List.getElem?_eq_getElem _⟩
      obtain ⟨y, hy⟩ : ∃ y, ys[j]? = some y := ⟨ys[j]'(by have := HN2.out; omega), List.getElem?_eq_getElem _⟩
      have hzy : y.1 = z.1 := same_fst HE.out hz hy
      obtain ⟨hq, hd⟩ := RV.out z (List.mem_of_getElem? hz)
      obtain ⟨hq', hd'⟩ := RU.out y (List.mem_of_getElem? hy)
      rw [hzy] at hq' hd'
      have C := pk_cells (hs.below HB.out hs.lt) hz
      have C' := pk_cells (hs'.below HB.out hs'.lt) hy
      rw [hzy] at C'
      obtain ⟨⟨f, k, qs, nm, p, ds⟩, q1, d1⟩ := z
      obtain ⟨y1, q2, d2⟩ := y
      dsimp only at hq hd hq' hd' C C'
      obtain ⟨Aq, cq, rfl, _, _, _⟩ := hq.open_
      obtain ⟨Ad, cd, rfl, _, _, _⟩ := hd.open_
      obtain ⟨Bq, eq, rfl, _, _, _⟩ := hq'.open_
      obtain ⟨Bd, ed, rfl, _, _, _⟩ := hd'.open_
      have QH := Lib.hid (hq.below HB.out)
      have DH := Lib.hid (hd.below HB.out)
      have QH' := Lib.hid (hq'.below HB.out)
      have DH' := Lib.hid (hd'.below HB.out)
      obtain ⟨c0, c1, c2_, c3, c4, c5⟩ := C
      obtain ⟨g0, g1, g2, g3, g4, g5⟩ := C'
      have hsz := HB.out.size
      clear hs hs' hz hy hzy hq hd hq' hd' HA HA2 hb hb'
      go_wp2_with fail
      refine region_tail 8 (by kernel_rfl) (by kernel_rfl) ?_
      simp only [List.take_succ_cons, List.take_zero, List.drop_succ_cons, List.drop_zero]
      obtain ⟨W2, hW2⟩ : ∃ W2, wr.drew = W2 := ⟨_, rfl⟩
      have a0 : W2.cell? ⟨b, o + j * 6, none⟩ = some (.int .i64 f) := by rw [← hW2]; exact c0
      have a1 : W2.cell? ⟨b, o + j * 6 + 1, none⟩ = some (.int .i64 k) := by rw [← hW2]; exact c1
      have a2 : W2.cell? ⟨b, o + j * 6 + 2, none⟩ = some (.slice Aq qs.length cq) := by rw [← hW2]; exact c2_
      have a3 : W2.cell? ⟨b, o + j * 6 + 3, none⟩ = some (.string nm) := by rw [← hW2]; exact c3
      have a4 : W2.cell? ⟨b, o + j * 6 + 4, none⟩ = some (.int .i64 p) := by rw [← hW2]; exact c4
      have a5 : W2.cell? ⟨b, o + j * 6 + 5, none⟩ = some (.slice Ad ds.length cd) := by rw [← hW2]; exact c5
      have x0 : W2.cell? ⟨b', o' + j * 6, none⟩ = some (.int .i64 f) := by rw [← hW2]; exact g0
      have x1 : W2.cell? ⟨b', o' + j * 6 + 1, none⟩ = some (.int .i64 k) := by rw [← hW2]; exact g1
      have x2 : W2.cell? ⟨b', o' + j * 6 + 2, none⟩ = some (.slice Bq qs.length eq) := by rw [← hW2]; exact g2
      have x3 : W2.cell? ⟨b', o' + j * 6 + 3, none⟩ = some (.string nm) := by rw [← hW2]; exact g3
      have x4 : W2.cell? ⟨b', o' + j * 6 + 4, none⟩ = some (.int .i64 p) := by rw [← hW2]; exact g4
      have x5 : W2.cell? ⟨b', o' + j * 6 + 5, none⟩ = some (.slice Bd ds.length ed) := by rw [← hW2]; exact g5
      have HB2 : Hid (Below w.heap.size w W2) := Lib.hid (by rw [← hW2]; exact HB.out.drew)
      have Q2 : Hid (Ints W2 0 (.slice Aq qs.length cq) qs) := Lib.hid (by rw [← hW2]; exact QH.out.drew)
      have D2 : Hid (Ints W2 0 (.slice Ad ds.length cd) ds) := Lib.hid (by rw [← hW2]; exact DH.out.drew)
      have Q2' : Hid (Ints W2 0 (.slice Bq qs.length eq) qs) := Lib.hid (by rw [← hW2]; exact QH'.out.drew)
      have D2' : Hid (Ints W2 0 (.slice Bd ds.length ed) ds) := Lib.hid (by rw [← hW2]; exact DH'.out.drew)
      rw [hW2]
      clear hW2 c0 c1 c2_ c3 c4 c5 g0 g1 g2 g3 g4 g5 HB QH DH QH' DH'
      repeat still_step
      refine wpStill_nil ?_
      go_wp2_with fail
      refine (eqPacket_same f k _ _ nm p _ _ qs ds _ Q2.out Q2'.out D2.out D2'.out).mono ?_
      rintro e w3 ⟨rfl, b3⟩
      have HB3 := Lib.hid (HB2.out.trans (b3.mono HB2.out.size))
      clear b3
      go_wp2_with fail
      go_roundw
      case rel => exact ⟨j + 1, by omega, by go_num, HB3⟩
      case measure => simp [intOf]; omega
    · go_wp2_with fail
      go_ret
      exact ⟨rfl, HB.out⟩
end Go.Proofs.YtpcflkdeoafpeaaDoor
namespace Go.Proofs.YtpcflkdeoafpeaaDoor
open Go.RowKit

/-- Behind a draw of what is cut. -/
def DrewCut (w : World) (e : Ending) (w' : World) : Prop :=
  ∃ k q qs nm pt d ds s, e = .returned (.tuple #[.agg #[.int .i64 k, q, .string nm, .int .i64 pt], d, .int .i64 s]) ∧ Own w' w.heap.size q qs ∧ Own w' w.heap.size d ds ∧ qs.length ≤ 4 ∧ nm.size ≤ 21 ∧ ds.length ≤ 20 ∧ Below w.heap.size w w'

theorem four_far {w : World} {g B : Nat} {ty : TypeId} {cs : Array Value} {x y z u : Value} (h : Blk w g ty cs) (hb : g ≠ B) : Blk ((((w.setCell ⟨B, 0, none⟩ x).setCell ⟨B, 1, none⟩ y).setCell ⟨B, 2, none⟩ z).setCell ⟨B, 3, none⟩ u) g ty cs :=
  (((h.far (p := ⟨B, 0, none⟩) hb x).far (p := ⟨B, 1, none⟩) hb y).far (p := ⟨B, 2, none⟩) hb z).far (p := ⟨B, 3, none⟩) hb u
theorem four_below {B0 : Nat} {w W : World} {g : Nat} {x y z u : Value} (h : Below B0 w W) (hg : B0 ≤ g) : Below B0 w ((((W.setCell ⟨g, 0, none⟩ x).setCell ⟨g, 1, none⟩ y).setCell ⟨g, 2, none⟩ z).setCell ⟨g, 3, none⟩ u) :=
  (((h.setCell (p := ⟨g, 0, none⟩) hg x).setCell (p := ⟨g, 1, none⟩) hg y).setCell (p := ⟨g, 2, none⟩) hg z).setCell (p := ⟨g, 3, none⟩) hg u
theorem four_own {w : World} {base B : Nat} {s x y z u : Value} {zs : List Int} (h : Own w base s zs) (hb : B < base) : Own ((((w.setCell ⟨B, 0, none⟩ x).setCell ⟨B, 1, none⟩ y).setCell ⟨B, 2, none⟩ z).setCell ⟨B, 3, none⟩ u) base s zs :=
  (((h.far hb x).far hb y).far hb z).far hb u
end Go.Proofs.YtpcflkdeoafpeaaDoor
namespace Go.Proofs.YtpcflkdeoafpeaaDoor
open Go.RowKit

theorem cut_size {k : Int} {qs : List Int} {nm : ByteArray} {p : Int} {ds : List Int} {s : Int} (h : cutOk k qs nm p ds s = true) : ∃ n : Nat, 1 ≤ n ∧ n ≤ 40 ∧ s = n := by
  unfold cutOk at h
  simp only [Bool.and_eq_true] at h
  have h3 := h.2
  simp [inR] at h3
  exact ⟨s.toNat, by omega, by omega, by omega⟩
theorem cutF_one {s L i : Nat} (h : L ≤ s) : cutF s L i = 0 := if_pos h
theorem cutF_more {s L i N : Nat} (hs : 1 ≤ s) (hN : cutM s L = N) (h1 : N ≠ 1) : cutF s L i = if i + 1 = N then (i : Int) + 1 + 128 else (i : Int) + 1 := by
  have h2 : ¬ L ≤ s := fun h => h1 (by rw [← hN]; exact (cutM_one hs).2 h)
  unfold cutF cutFr
  rw [if_neg h2, ← hN, cutM, if_neg h2]
theorem cut_count {k : Int} {qs : List Int} {nm : ByteArray} {p : Int} {ds : List Int} {s : Int} {zs : List ((Int × Int × List Int × ByteArray × Int × List Int) × Value × Value)} (h : cutOk k qs nm p ds s = true) (hz : zs.map Prod.fst = cutR k qs nm p ds s) : zs.length = cutM s.toNat ds.length := by
  rw [cutR_ok h] at hz
  exact cut_len hz
theorem cutOk_with {k : Int} {qs : List Int} {nm : ByteArray} {p : Int} {ds : List Int} {s t : Int} (h : cutOk k qs nm p ds s = true) (h1 : 1 ≤ t) (h2 : t ≤ 40) : cutOk k qs nm p ds t = true := by
  unfold cutOk at h ⊢
  simp only [Bool.and_eq_true] at h ⊢
  exact ⟨h.1, by simp [inR, h1, h2]⟩
theorem cutM_1 {L : Nat} (h : 1 ≤ L) : cutM 1 L = L := by
  unfold cutM
  split
  · omega
  · exact cutN_1 L
theorem cut_ad {k : Int} {qs : List Int} {nm : ByteArray} {p : Int} {ds : List Int} {s : Int} (h : cutOk k qs nm p ds s = true) : adOk k qs nm p = true := by
  unfold cutOk at h
  simp only [Bool.and_eq_true] at h
  exact h.1.1
/-- What is left behind a fragment. -/
theorem cut_left {j n L M D : Nat} (hM : L - j * n = M) (hD : D = min n M) : (((L - (j + 1) * n : Nat)) : Int) = (M : Int) - (D : Int) := by
  have : (j + 1) * n = j * n + n := by rw [Nat.add_mul, Nat.one_mul]
  omega
end Go.Proofs.YtpcflkdeoafpeaaDoor

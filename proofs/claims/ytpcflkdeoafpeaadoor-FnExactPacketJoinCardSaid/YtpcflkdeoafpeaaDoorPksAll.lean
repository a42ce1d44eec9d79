/-
  A slice of packets that came in as an argument; the laws' own szPacketS, toPacketS. Conditions: none.
  The laws' own toPacketS: the packets in new memory. Conditions: the packets came in, and are not too many.
  The laws' own markPacketS once more: a block that is none of the packets' stays as it is. Conditions: as for markPacketS.
-/
import Derived.Test.YtpcflkdeoafpeaaDoorPkLaws3
import Derived.Test.YtpcflkdeoafpeaaDoorPkts
import Derived.Test.YtpcflkdeoafpeaaDoorDrawJoin
import Derived.Deep.Slices
import Derived.Test.YtpcflkdeoafpeaaDoorMarkKs
namespace Go.Proofs.YtpcflkdeoafpeaaDoor
open Go.ChangeShapes Go.WideShapes Go.ChangeAt Go.RowKit Go.Joins Go.Deep

theorem list_ofK {α : Type} {Q : Nat → α → Prop} : ∀ (n : Nat), (∀ i, i < n → ∃ x, Q i x) → ∃ L : List α, L.length = n ∧ ∀ i x, L[i]? = some x → Q i x
  | 0, _ => ⟨[], rfl, fun i x h => by simp at h⟩
  | n + 1, h => by
    obtain ⟨L, hl, hL⟩ := list_ofK n (fun i hi => h i (by omega))
    obtain ⟨x, hx⟩ := h n (by omega)
    refine ⟨L ++ [x], by simp [hl], fun i y hy => ?_⟩
    rw [List.getElem?_append] at hy
    split at hy
    · exact hL i y hy
    · next hi =>
      have hi2 : i = n := by
        have := (List.getElem?_eq_some_iff.1 hy).1
        simp at this
        omega
      subst hi2
      rw [hl, Nat.sub_self] at hy
      have : x = y := by simpa using hy
      subst this
      exact hx
/-- A packet that came in. -/
def CameZ (w : World) (hi : Nat) (z : ((Int × Int × List Int × ByteArray × Int × List Int) × Value × Value)) : Prop := Came .i64 w hi z.2.1 z.1.2.2.1 ∧ z.1.2.2.2.1.size ≤ maxLen ∧ Came .i64 w hi z.2.2 z.1.2.2.2.2.2
/-- A slice of packets that came in and is only read, in a block below hi. -/
def CameK (w : World) (hi : Nat) (v : Value) (zs : List ((Int × Int × List Int × ByteArray × Int × List Int) × Value × Value)) : Prop :=
  ∃ A c, v = .slice A zs.length c ∧ zs.length ≤ c ∧ c ≤ 9223372036854775807 ∧ (∀ z ∈ zs, CameZ w hi z) ∧
    (zs = [] ∨ ∃ b o, A = some ⟨b, o, none⟩ ∧ b < hi ∧ ∀ j z, zs[j]? = some z → ∀ t u, (pkc z)[t]? = some u → w.cell? ⟨b, o + j * 6 + t, none⟩ = some u)
theorem CameZ.below {w w' : World} {hi : Nat} {z : ((Int × Int × List Int × ByteArray × Int × List Int) × Value × Value)} (h : CameZ w hi z) (hb : Below hi w w') : CameZ w' hi z := ⟨h.1.below hb, h.2.1, h.2.2.below hb⟩
theorem CameK.below {w w' : World} {hi : Nat} {v : Value} {zs : List ((Int × Int × List Int × ByteArray × Int × List Int) × Value × Value)} (h : CameK w hi v zs) (hb : Below hi w w') : CameK w' hi v zs := by
  obtain ⟨A, c, h1, h2, h3, h4, h5⟩ := h
  refine ⟨A, c, h1, h2, h3, fun z hz => (h4 z hz).below hb, ?_⟩
  rcases h5 with h5 | ⟨b, o, h6, h7, h8⟩
  · exact .inl h5
  · exact .inr ⟨b, o, h6, h7, fun j z hz t u hu => (hb.cell (p := ⟨b, o + j * 6 + t, none⟩) h7).trans (h8 j z hz t u hu)⟩

set_option maxRecDepth 100000 in
theorem packets_of {H : Type} {enc : TypeId × Value → H} {W : World} {base : Nat} {v : Value} {d : DataW H} {p : List MemPlace}
    (hval : Value.okWide Tryd.prog W .any base 34 v) (h : DataW.Trod enc Tryd.prog W 0 (fun _ => true) true 34 v d p) :
    ∃ zs, CameK W W.heap.size v zs := by
  obtain ⟨A, len, cap, rfl⟩ := okWide_slice Tryd.underlying34 hval
  obtain ⟨fuel, hf⟩ := h
  rcases open_slice Tryd.underlying34 hf with ⟨hcs, _⟩ | ⟨x, l, c, m, n, D, Pl, hcs, _, hl, hm, hmm, _, hi⟩
  · simp [Value.cells] at hcs
    obtain ⟨rfl, rfl, rfl⟩ := hcs
    exact ⟨[], none, 0, rfl, Nat.le_refl _, by omega, by simp, .inl rfl⟩
  · simp [Value.cells] at hcs
    obtain ⟨rfl, rfl, rfl⟩ := hcs
    have hml : len ≤ m := by rw [hmm]; split <;> omega
    obtain ⟨zs, hls, hL⟩ := list_ofK (Q := fun i (z : ((Int × Int × List Int × ByteArray × Int × List Int) × Value × Value)) => CameZ W W.heap.size z ∧ ∀ t u, (pkc z)[t]? = some u → W.cell? ((x.add (i * 6)).add t) = some u) len (fun i hil => by
      obtain ⟨cs', hc1, hc2⟩ := hi i (by omega)
      rw [Tryd.cellsPacket] at hc1
      obtain ⟨_, hlen, hcell⟩ := World.cells?_some hc1
      obtain ⟨f, k, q, nm, pt, dv, qs, ds, e, h1, h2, h3⟩ := packet_cells hc2
      refine ⟨((f, k, qs, nm, pt, ds), q, dv), ⟨h1, h2, h3⟩, fun t u hu => ?_⟩
      have ht : t < 6 := by
        have := (List.getElem?_eq_some_iff.1 hu).1
        simpa [pkc] using this
      rw [hcell t ht, e]
      exact hu)
    refine ⟨zs, some x, cap, by rw [hls], by omega, by unfold maxLen at hm; omega, ?_, ?_⟩
    · intro z hz
      obtain ⟨i, hi2⟩ := List.getElem?_of_mem hz
      exact (hL i z hi2).1
    · rcases zs with _ | ⟨z, r⟩
      · exact .inl rfl
      · right
        obtain ⟨b, off, spot⟩ := x
        have h0 := (hL 0 z rfl).2 0 _ rfl
        have hspot : spot = none := by simpa [Addr.add] using World.cell?_spot h0
        subst hspot
        refine ⟨b, off, rfl, by simpa [Addr.add] using World.block_lt_of_cell? W _ h0, fun j z2 hz2 t u hu => ?_⟩
        have h1 := (hL j z2 hz2).2 t u hu
        rw [addr_add, addr_add] at h1
        exact h1
/-- How much the packets take. -/
def tot : List ((Int × Int × List Int × ByteArray × Int × List Int) × Value × Value) → Nat
  | [] => 0
  | z :: r => z.1.2.2.1.length + z.1.2.2.2.1.size + z.1.2.2.2.2.2.length + tot r
theorem tot_take : ∀ (zs : List ((Int × Int × List Int × ByteArray × Int × List Int) × Value × Value)) (k : Nat) (z : ((Int × Int × List Int × ByteArray × Int × List Int) × Value × Value)), zs[k]? = some z → tot (zs.take (k + 1)) = tot (zs.take k) + (z.1.2.2.1.length + z.1.2.2.2.1.size + z.1.2.2.2.2.2.length)
  | [], k, z, h => by simp at h
  | y :: r, 0, z, h => by
    have : y = z := by simpa using h
    subst this
    simp [tot]
  | y :: r, k + 1, z, h => by
    have h' : r[k]? = some z := by simpa using h
    have := tot_take r k z h'
    simp only [List.take_succ_cons, tot] at this ⊢
    omega
theorem tot_mem : ∀ {zs : List ((Int × Int × List Int × ByteArray × Int × List Int) × Value × Value)} {z : ((Int × Int × List Int × ByteArray × Int × List Int) × Value × Value)}, z ∈ zs → z.1.2.2.1.length + z.1.2.2.2.1.size + z.1.2.2.2.2.2.length ≤ tot zs
  | y :: r, z, h => by
    rw [List.mem_cons] at h
    rcases h with rfl | h
    · simp only [tot]
      omega
    · have := tot_mem h
      simp only [tot]
      omega
/-- Behind a look at packets. -/
def LeftK (w : World) (zs : List ((Int × Int × List Int × ByteArray × Int × List Int) × Value × Value)) (e : Ending) (w' : World) : Prop := ∃ r : Int, e = .returned (.int .i64 r) ∧ -1 ≤ r ∧ r ≤ 1048576 ∧ (0 ≤ r → zs.length + tot zs ≤ 1048576) ∧ Below w.heap.size w w'
theorem szPacket_anyK (z : ((Int × Int × List Int × ByteArray × Int × List Int) × Value × Value)) (hi : Nat) (left : Int) (w : World) (hz : CameZ w hi z) (hh : hi ≤ w.heap.size) (h0 : 0 ≤ left) (h1 : left ≤ 1048576) :
    Calls Tryd.prog 25 #[.agg (pkc z).toArray, .int .i64 left] w fun e w' => ∃ r : Int, e = .returned (.int .i64 r) ∧ (r = -1 ∨ (0 ≤ r ∧ r = left - (z.1.2.2.1.length + z.1.2.2.2.1.size + z.1.2.2.2.2.2.length : Nat))) ∧ Below w.heap.size w w' := by
  obtain ⟨⟨f, k, qs, nm, p, ds⟩, q, d⟩ := z
  obtain ⟨hq, hn, hd⟩ := hz
  by_cases h : (qs.length : Int) + nm.size + ds.length ≤ left
  · exact (szPacket_fits f k q nm p d qs ds hi left w hq hd hh h h1).mono fun e w' ⟨h3, h4⟩ => ⟨_, h3, .inr ⟨by omega, by dsimp only; omega⟩, h4⟩
  · exact (szPacket_not f k q nm p d qs ds hi left w hq hd hh (by omega) h0 h1 hn).mono fun e w' ⟨h3, h4⟩ => ⟨_, h3, .inl rfl, h4⟩

set_option maxRecDepth 100000 in
set_option maxHeartbeats 1000000 in
theorem szPacketS_any (v : Value) (zs : List ((Int × Int × List Int × ByteArray × Int × List Int) × Value × Value)) (hi : Nat) (w : World) (hv : CameK w hi v zs) (hh : hi ≤ w.heap.size) :
    Calls Tryd.prog 9 #[v, .int .i64 1048576] w fun e w' => LeftK w zs e w' := by
  have HV := Lib.hid hv
  obtain ⟨A, c, rfl, hc, hm, hz, hA⟩ := hv
  obtain ⟨n, hn⟩ : ∃ n, zs.length = n := ⟨_, rfl⟩
  have HN := Lib.hid hn
  have HLK : Hid (∀ r : Int, (0 ≤ r → n + tot zs ≤ 1048576) → (0 ≤ r → zs.length + tot zs ≤ 1048576)) := Lib.hid (fun r h h0 => by rw [hn]; exact h h0)
  rw [hn] at hc ⊢
  have HZ := Lib.hid hz
  have HA := Lib.hid hA
  clear hn hz hA
  by_cases hl : 1048576 < n
  · have hl' : (1048576 : Int) - (n : Int) < 0 := by omega
    go_enter Tryd.func9, Tryd.ntmps9
    go_wp2_with fail
    go_ret
    exact ⟨-1, rfl, by omega, by omega, by omega, Below.refl _ _⟩
  have hl' : 0 ≤ (1048576 : Int) - (n : Int) := by omega
  go_enter Tryd.func9, Tryd.ntmps9
  go_wp2_with fail
  go_loopw [1, 5] (fun l i wr => ∃ (k : Nat) (r : Int), k ≤ n ∧ i = .int .i64 k ∧ l = .int .i64 r ∧ 0 ≤ r ∧ r ≤ 1048576 ∧ Hid (r + (n : Int) + (tot (zs.take k) : Nat) = 1048576) ∧ Hid (Below w.heap.size w wr)) (fun _ i _ => n - (intOf i).toNat)
  case atStart => exact ⟨0, _, Nat.zero_le _, rfl, rfl, by omega, by omega, Lib.hid (by simp [tot]), Lib.hid (Below.refl _ _)⟩
  case round =>
    obtain ⟨k, r, hk, rfl, rfl, hr0, hr1, HR, HB⟩ := hrel
    by_cases hlt : k < n
    · have hki : (k : Int) < (n : Int) := by omega
      obtain ⟨b, o, rfl, hb, hcell⟩ := HA.out.resolve_left (fun h => by have := HN.out; rw [h] at this; simp at this; omega)
      have hkl : k < zs.length := by rw [HN.out]; exact hlt
      obtain ⟨z, hz⟩ : ∃ z, zs[k]? = some z := ⟨zs[k], List.getElem?_eq_getElem hkl⟩
      have hcl := hcell k z hz
      have HZK := Lib.hid hz
      have HCZ := Lib.hid ((HZ.out z (List.mem_of_getElem? hz)).below (HB.out.mono hh))
      have q0 := fun t u (hu : (pkc z)[t]? = some u) => (HB.out.cell (p := ⟨b, o + k * 6 + t, none⟩) (show b < _ by omega)).trans (hcl t u hu)
      have d0 : wr.cell? ⟨b, o + k * 6, none⟩ = some (.int .i64 z.1.1) := q0 0 _ rfl
      have d1 : wr.cell? ⟨b, o + k * 6 + 1, none⟩ = some (.int .i64 z.1.2.1) := q0 1 _ rfl
      have d2 : wr.cell? ⟨b, o + k * 6 + 2, none⟩ = some z.2.1 := q0 2 _ rfl
      have d3 : wr.cell? ⟨b, o + k * 6 + 3, none⟩ = some (.string z.1.2.2.2.1) := q0 3 _ rfl
      have d4 : wr.cell? ⟨b, o + k * 6 + 4, none⟩ = some (.int .i64 z.1.2.2.2.2.1) := q0 4 _ rfl
      have d5 : wr.cell? ⟨b, o + k * 6 + 5, none⟩ = some z.2.2 := q0 5 _ rfl
      have hhr : hi ≤ wr.heap.size := Nat.le_trans hh HB.out.size
      clear hcell hcl hz hkl q0
      go_wp2_with fail
      refine (szPacket_anyK z hi r _ HCZ.out hhr hr0 hr1).mono ?_
      rintro e w2 ⟨q, rfl, hq, b2⟩
      have HQ := Lib.hid hq
      have HB2 := Lib.hid (HB.out.trans (b2.mono HB.out.size))
      clear b2 hq d0 d1 d2 d3 d4 d5
      by_cases hq0 : q < 0
      · go_wp2_with fail
        go_ret
        exact ⟨-1, rfl, by omega, by omega, by omega, HB2.out⟩
      · have hq' : 0 ≤ q := by omega
        have HS := Lib.hid (tot_take zs k z HZK.out)
        go_wp2_with fail
        go_roundw
        case rel =>
          have hq := HQ.out
          have hs := HS.out
          have hr := HR.out
          exact ⟨k + 1, q, by omega, by go_num, rfl, hq', by omega, Lib.hid (by rw [hs]; omega), HB2⟩
        case measure => simp [intOf]; omega
    · have HX : Hid (n + tot zs ≤ 1048576) := Lib.hid (by
        have h := HR.out
        rw [List.take_of_length_le (by rw [HN.out]; omega)] at h
        omega)
      go_wp2_with fail
      go_ret
      exact ⟨r, rfl, by omega, hr1, HLK.out r (fun _ => HX.out), HB.out⟩
end Go.Proofs.YtpcflkdeoafpeaaDoor
namespace Go.Proofs.YtpcflkdeoafpeaaDoor
open Go.ChangeShapes Go.WideShapes Go.ChangeAt Go.RowKit Go.Joins Go.Deep

def zeroP : ((Int × Int × List Int × ByteArray × Int × List Int) × Value × Value) := ((0, 0, [], .empty, 0, []), .slice none 0 0, .slice none 0 0)
theorem Tryd.infoPacket_ : (Tryd.prog.info? 32).map (fun i => (i.zero, i.size, i.bytes)) = some (some (.agg #[.int .i64 0, .int .i64 0, .slice none 0 0, .string .empty, .int .i64 0, .slice none 0 0]), 6, 88) := by kernel_rfl
theorem kv_blank : ∀ n : Nat, kv (List.replicate n zeroP) = (List.range (n * 6)).map fun j => (#[Value.int .i64 0, .int .i64 0, .slice none 0 0, .string .empty, .int .i64 0, .slice none 0 0] : Array Value)[j % 6]!
  | 0 => rfl
  | n + 1 => by
    rw [List.replicate_succ', kv_append, kv_blank n, show (n + 1) * 6 = n * 6 + 1 + 1 + 1 + 1 + 1 + 1 by omega]
    simp only [List.range_succ, List.map_append, List.map_cons, List.map_nil, List.append_assoc]
    congr 1
    have e0 : n * 6 % 6 = 0 := by omega
    have e1 : (n * 6 + 1) % 6 = 1 := by omega
    have e2 : (n * 6 + 1 + 1) % 6 = 2 := by omega
    have e3 : (n * 6 + 1 + 1 + 1) % 6 = 3 := by omega
    have e4 : (n * 6 + 1 + 1 + 1 + 1) % 6 = 4 := by omega
    have e5 : (n * 6 + 1 + 1 + 1 + 1 + 1) % 6 = 5 := by omega
    rw [e0, e1, e2, e3, e4, e5]
    rfl
theorem made_packets (n : Nat) : madeCells #[Value.int .i64 0, .int .i64 0, .slice none 0 0, .string .empty, .int .i64 0, .slice none 0 0] (n * 6) = (kv (List.replicate n zeroP)).toArray := by
  rw [kv_blank]
  apply Array.toList_inj.1
  unfold madeCells
  simp
/-- 'make([]Packet, n)' -/
theorem mk_packets (n : Nat) (hn : n ≤ 1099511627776) (u : World) : (Instr.makeSlice 23 (.int .i64 (n : Int)) (.int .i64 (n : Int))).run Tryd.prog u = .ok (.slice (some ⟨u.heap.size, 0, none⟩) n n) (u.alloc (.cells (kv (List.replicate n zeroP)).toArray 32)) := by
  obtain ⟨i0, hi, hz0, hz1, hz2⟩ := info_parts Tryd.infoPacket_
  have h := run_make (P := Tryd.prog) u 23 32 i0 (.agg #[.int .i64 0, .int .i64 0, .slice none 0 0, .string .empty, .int .i64 0, .slice none 0 0]) Tryd.underlying23 hi hz0 .i64 .i64 (n : Int) (n : Int) (by omega) (Int.le_refl _) (by rw [hz2]; omega) (by omega)
  simp only [Int.toNat_natCast, hz1] at h
  rw [← made_packets]
  exact h
def six (w : World) (b o : Nat) (z : ((Int × Int × List Int × ByteArray × Int × List Int) × Value × Value)) : World := (((((w.setCell ⟨b, o, none⟩ (.int .i64 z.1.1)).setCell ⟨b, o + 1, none⟩ (.int .i64 z.1.2.1)).setCell ⟨b, o + 2, none⟩ z.2.1).setCell ⟨b, o + 3, none⟩ (.string z.1.2.2.2.1)).setCell ⟨b, o + 4, none⟩ (.int .i64 z.1.2.2.2.2.1)).setCell ⟨b, o + 5, none⟩ z.2.2
theorem OwnK.six {w : World} {base b n c j : Nat} {zs : List ((Int × Int × List Int × ByteArray × Int × List Int) × Value × Value)} {z : ((Int × Int × List Int × ByteArray × Int × List Int) × Value × Value)} (h : OwnK w base (.slice (some ⟨b, 0, none⟩) n c) zs) (hz : zs[j]? = some z) (y : ((Int × Int × List Int × ByteArray × Int × List Int) × Value × Value)) : OwnK (Go.Proofs.YtpcflkdeoafpeaaDoor.six w b (j * 6) y) base (.slice (some ⟨b, 0, none⟩) n c) (zs.set j y) := by
  have h0 := h.setT hz (t := 0) (u := .int .i64 y.1.1) (z' := ((y.1.1, z.1.2), z.2)) (by omega) rfl
  have h1 := h0.setT (set_at hz _) (t := 1) (u := .int .i64 y.1.2.1) (z' := ((y.1.1, y.1.2.1, z.1.2.2), z.2)) (by omega) rfl
  have h2 := h1.setT (set_at (set_at hz _) _) (t := 2) (u := y.2.1) (z' := ((y.1.1, y.1.2.1, y.1.2.2.1, z.1.2.2.2), y.2.1, z.2.2)) (by omega) rfl
  have h3 := h2.setT (set_at (set_at (set_at hz _) _) _) (t := 3) (u := .string y.1.2.2.2.1) (z' := ((y.1.1, y.1.2.1, y.1.2.2.1, y.1.2.2.2.1, z.1.2.2.2.2), y.2.1, z.2.2)) (by omega) rfl
  have h4 := h3.setT (set_at (set_at (set_at (set_at hz _) _) _) _) (t := 4) (u := .int .i64 y.1.2.2.2.2.1) (z' := ((y.1.1, y.1.2.1, y.1.2.2.1, y.1.2.2.2.1, y.1.2.2.2.2.1, z.1.2.2.2.2.2), y.2.1, z.2.2)) (by omega) rfl
  have h5 := h4.setT (set_at (set_at (set_at (set_at (set_at hz _) _) _) _) _) (t := 5) (u := y.2.2) (z' := y) (by omega) rfl
  simp only [List.set_set] at h5
  exact h5
theorem Own.six {w : World} {base b o : Nat} {v : Value} {zs : List Int} (h : Own w base v zs) (hb : b < base) (y : ((Int × Int × List Int × ByteArray × Int × List Int) × Value × Value)) : Own (Go.Proofs.YtpcflkdeoafpeaaDoor.six w b o y) base v zs := (((((h.far hb _).far hb _).far hb _).far hb _).far hb _).far hb _
theorem below_six {w W : World} {b o : Nat} (h : Below w.heap.size w W) (hb : w.heap.size ≤ b) (y : ((Int × Int × List Int × ByteArray × Int × List Int) × Value × Value)) : Below w.heap.size w (six W b o y) :=
  (((((h.setCell (p := ⟨b, o, none⟩) hb _).setCell (p := ⟨b, o + 1, none⟩) hb _).setCell (p := ⟨b, o + 2, none⟩) hb _).setCell (p := ⟨b, o + 3, none⟩) hb _).setCell (p := ⟨b, o + 4, none⟩) hb _).setCell (p := ⟨b, o + 5, none⟩) hb _
theorem fill_set {ys : List ((Int × Int × List Int × ByteArray × Int × List Int) × Value × Value)} {n k : Nat} (hk : ys.length = k) (hn : k < n) (z : ((Int × Int × List Int × ByteArray × Int × List Int) × Value × Value)) : (ys ++ List.replicate (n - k) zeroP).set k z = (ys ++ [z]) ++ List.replicate (n - (k + 1)) zeroP := by
  rw [List.set_append_right k _ (by omega), hk, Nat.sub_self, show n - k = (n - (k + 1)) + 1 by omega, List.replicate_succ, List.set_cons_zero, List.append_assoc]
  rfl
theorem fill_get {ys : List ((Int × Int × List Int × ByteArray × Int × List Int) × Value × Value)} {n k : Nat} (hk : ys.length = k) (hn : k < n) : (ys ++ List.replicate (n - k) zeroP)[k]? = some zeroP := by
  rw [List.getElem?_append_right (by omega), hk, Nat.sub_self, List.getElem?_replicate, if_pos (by omega)]

/-- Packets in new memory. -/
def MadeKs (w : World) (es : List (Int × Int × List Int × ByteArray × Int × List Int)) (e : Ending) (w' : World) : Prop := ∃ v ys, e = .returned v ∧ ys.map Prod.fst = es ∧ OwnK w' w.heap.size v ys ∧ RowsK w' w.heap.size ys ∧ ApartK ys ∧ Below w.heap.size w w'
set_option maxRecDepth 100000 in
set_option maxHeartbeats 4000000 in
theorem toPacketS_any (v : Value) (zs : List ((Int × Int × List Int × ByteArray × Int × List Int) × Value × Value)) (hi : Nat) (w : World) (hv : CameK w hi v zs) (hh : hi ≤ w.heap.size) (hl : zs.length + tot zs ≤ 1048576) :
    Calls Tryd.prog 10 #[v] w fun e w' => MadeKs w (zs.map Prod.fst) e w' := by
  obtain ⟨A, c, rfl, hc, hm, hz, hA⟩ := hv
  obtain ⟨n, hn⟩ : ∃ n, zs.length = n := ⟨_, rfl⟩
  have HN := Lib.hid hn
  rw [hn] at hc hl ⊢
  have hnl : n ≤ 1048576 := by omega
  have HZ := Lib.hid hz
  have HA := Lib.hid hA
  have HL := Lib.hid (fun z (hz : z ∈ zs) => Nat.le_trans (tot_mem hz) (show tot zs ≤ 1048576 by omega))
  have hmk := mk_packets n (by omega)
  clear hn hA hz hl
  go_enter Tryd.func10, Tryd.ntmps10
  go_wp2_with fail
  go_loopw [4] (fun i wr => ∃ (k : Nat) (ys : List ((Int × Int × List Int × ByteArray × Int × List Int) × Value × Value)), k ≤ n ∧ i = .int .i64 k ∧ Hid (ys.map Prod.fst = (zs.take k).map Prod.fst) ∧ Hid (ys.length = k) ∧ Hid (OwnK wr w.heap.size (.slice (some ⟨w.heap.size, 0, none⟩) n n) (ys ++ List.replicate (n - k) zeroP)) ∧ Hid (RowsK wr (w.heap.size + 1) ys) ∧ Hid (ApartK ys) ∧ Hid (Below w.heap.size w wr)) (fun i _ => n - (intOf i).toNat)
  case atStart =>
    refine ⟨0, [], Nat.zero_le _, rfl, Lib.hid rfl, Lib.hid rfl, Lib.hid ?_, Lib.hid (RowsK.nil_ _ _), Lib.hid ApartK.nil_, Lib.hid ((Below.refl _ _).alloc (Nat.le_refl _) _)⟩
    have h := OwnK.lit w (List.replicate n zeroP) w.heap.size (Nat.le_refl _) (by simp; omega)
    simpa using h
  case round =>
    obtain ⟨k, ys, hk, rfl, HF, HY, OK, RK, AP, HB⟩ := hrel
    by_cases hlt : k < n
    · have hki : (k : Int) < (n : Int) := by omega
      obtain ⟨b, o, rfl, hb, hcell⟩ := HA.out.resolve_left (fun h => by have := HN.out; rw [h] at this; simp at this; omega)
      have hkl : k < zs.length := by rw [HN.out]; exact hlt
      obtain ⟨z, hz⟩ : ∃ z, zs[k]? = some z := ⟨zs[k], List.getElem?_eq_getElem hkl⟩
      have hcl := hcell k z hz
      have HZK := Lib.hid hz
      have hcz := (HZ.out z (List.mem_of_getElem? hz)).below (HB.out.mono hh)
      have hlz := HL.out z (List.mem_of_getElem? hz)
      have q0 := fun t u (hu : (pkc z)[t]? = some u) => (HB.out.cell (p := ⟨b, o + k * 6 + t, none⟩) (show b < _ by omega)).trans (hcl t u hu)
      have d0 : wr.cell? ⟨b, o + k * 6, none⟩ = some (.int .i64 z.1.1) := q0 0 _ rfl
      have d1 : wr.cell? ⟨b, o + k * 6 + 1, none⟩ = some (.int .i64 z.1.2.1) := q0 1 _ rfl
      have d2 : wr.cell? ⟨b, o + k * 6 + 2, none⟩ = some z.2.1 := q0 2 _ rfl
      have d3 : wr.cell? ⟨b, o + k * 6 + 3, none⟩ = some (.string z.1.2.2.2.1) := q0 3 _ rfl
      have d4 : wr.cell? ⟨b, o + k * 6 + 4, none⟩ = some (.int .i64 z.1.2.2.2.2.1) := q0 4 _ rfl
      have d5 : wr.cell? ⟨b, o + k * 6 + 5, none⟩ = some z.2.2 := q0 5 _ rfl
      have hhr : hi ≤ wr.heap.size := Nat.le_trans hh HB.out.size
      obtain ⟨⟨f, kk, qs, nm, p, ds⟩, q, d⟩ := z
      dsimp only at d0 d1 d2 d3 d4 d5 hlz
      have HCZ := Lib.hid hcz
      have hq1 : qs.length ≤ 1048576 := by omega
      have hd1 : ds.length ≤ 1048576 := by omega
      have hblk : w.heap.size + 1 ≤ wr.heap.size := by
        obtain ⟨A', c', e, _, _, hA'⟩ := OK.out.form
        obtain ⟨b', e2, _, hb3, _⟩ := hA'.resolve_left (fun h => by have h3 := congrArg List.length h; simp at h3; omega)
        injection e with e1
        rw [← e1] at e2
        injection e2 with e2
        injection e2 with e2
        omega
      clear hcell hcl hz hkl q0 hlz hcz
      go_wp2_with fail
      refine (toPacket_any f kk q nm p d qs ds hi _ HCZ.out.1 HCZ.out.2.2 hhr hq1 hd1).mono ?_
      rintro e w2 ⟨q2, e2, rfl, oq, od, hqd, hdq, b2⟩
      have hqo := RK.out.ahead oq
      have hdo := RK.out.ahead od
      have AP2 := Lib.hid (AP.out.snoc (x := (f, kk, qs, nm, p, ds)) hqo hdo hqd)
      obtain ⟨Aq, cq, rfl, _, _, _⟩ := oq.form
      obtain ⟨Ad, cd, rfl, _, _, _⟩ := od.form
      have OK2 := OK.out.below b2
      have RK2 := RK.out.below b2
      have HB2 := HB.out.trans (b2.mono HB.out.size)
      have OK3 := Lib.hid (OK2.six (fill_get HY.out hlt) ((f, kk, qs, nm, p, ds), .slice Aq qs.length cq, .slice Ad ds.length cd))
      rw [fill_set HY.out hlt] at OK3
      have oq2 := oq.more hblk
      have od2 := od.more hblk
      have RK3 : Hid (RowsK (six w2 w.heap.size (k * 6) ((f, kk, qs, nm, p, ds), .slice Aq qs.length cq, .slice Ad ds.length cd)) (w.heap.size + 1) (ys ++ [((f, kk, qs, nm, p, ds), .slice Aq qs.length cq, .slice Ad ds.length cd)])) := Lib.hid (RowsK.snoc (fun z hz => ⟨(RK2 z hz).1.six (Nat.lt_succ_self _) _, (RK2 z hz).2.six (Nat.lt_succ_self _) _⟩) (oq2.six (Nat.lt_succ_self _) _) (od2.six (Nat.lt_succ_self _) _))
      have HB3 := Lib.hid (below_six (o := k * 6) HB2 (Nat.le_refl _) ((f, kk, qs, nm, p, ds), .slice Aq qs.length cq, .slice Ad ds.length cd))
      have g0 := seg_free OK2 (fill_get HY.out hlt) (k * 6)
      have g1 := seg_free OK2 (fill_get HY.out hlt) (k * 6 + 1)
      have g2 := seg_free OK2 (fill_get HY.out hlt) (k * 6 + 2)
      have g3 := seg_free OK2 (fill_get HY.out hlt) (k * 6 + 3)
      have g4 := seg_free OK2 (fill_get HY.out hlt) (k * 6 + 4)
      have g5 := seg_free OK2 (fill_get HY.out hlt) (k * 6 + 5)
      obtain ⟨y0, y1, y2, y3, y4, y5⟩ := seg_cells OK2 (fill_get HY.out hlt)
      have HF2 : Hid ((ys ++ [(((f, kk, qs, nm, p, ds), .slice Aq qs.length cq, .slice Ad ds.length cd) : ((Int × Int × List Int × ByteArray × Int × List Int) × Value × Value))]).map Prod.fst = (zs.take (k + 1)).map Prod.fst) := Lib.hid (by
        obtain ⟨hk1, hk2⟩ := List.getElem?_eq_some_iff.1 HZK.out
        rw [List.take_succ_eq_append_getElem hk1, List.map_append, List.map_append, HF.out, hk2]
        rfl)
      have HY2 : Hid ((ys ++ [(((f, kk, qs, nm, p, ds), .slice Aq qs.length cq, .slice Ad ds.length cd) : ((Int × Int × List Int × ByteArray × Int × List Int) × Value × Value))]).length = k + 1) := Lib.hid (by rw [List.length_append, HY.out]; rfl)
      clear b2 OK2 RK2 HB2 oq od oq2 od2 hqo hdo hqd hdq d0 d1 d2 d3 d4 d5
      go_wp2_with fail
      go_roundw
      case rel => exact ⟨k + 1, _, by omega, by go_num, HF2, HY2, OK3, RK3, AP2, HB3⟩
      case measure => simp [intOf]; omega
    · have hki : ¬ (k : Int) < (n : Int) := by omega
      have hkn : k = n := by omega
      have HO : Hid (OwnK wr w.heap.size (.slice (some ⟨w.heap.size, 0, none⟩) n n) ys) := Lib.hid (by
        have h := OK.out
        rw [hkn, Nat.sub_self, List.replicate_zero, List.append_nil] at h
        exact h)
      have HE : Hid (ys.map Prod.fst = zs.map Prod.fst) := Lib.hid (by
        rw [HF.out, List.take_of_length_le (by rw [HN.out]; omega)])
      clear hkn
      go_wp2_with fail
      go_ret
      exact ⟨_, ys, rfl, HE.out, HO.out, RK.out.more (Nat.le_succ _), AP.out, HB.out⟩
end Go.Proofs.YtpcflkdeoafpeaaDoor
namespace Go.Proofs.YtpcflkdeoafpeaaDoor
open Go.RowKit

/-- A row of integers whose block stays. -/
theorem Own.stay {w w' : World} {base : Nat} {v : Value} {zs : List Int} (h : Own w base v zs) (hs : ∀ i, v.ownBlock = some i → w'.heap[i]? = w.heap[i]?) : Own w' base v zs := by
  refine ⟨h.1, ?_⟩
  rcases h.2 with h2 | ⟨g, cap, cur, rfl, hb, hh, r⟩
  · exact .inl h2
  · exact .inr ⟨g, cap, cur, rfl, hb, (hs g rfl).trans hh, r⟩

set_option maxRecDepth 100000 in
set_option maxHeartbeats 4000000 in
theorem markPacketS_keep (v : Value) (zs : List ((Int × Int × List Int × ByteArray × Int × List Int) × Value × Value)) (base : Nat) (k0 : Int) (w : World) (hv : OwnK w base v zs) (hr : RowsK w base zs) (ha : ApartK zs) (hb : base ≤ w.heap.size) (h0 : 0 ≤ k0) (h1 : nkEs k0 (zs.map Prod.fst) ≤ 1099511627776) (X : Nat) (hX : X < w.heap.size) (hXv : v.ownBlock ≠ some X) (hXz : ∀ p ∈ zs.map Prod.snd, p.1.ownBlock ≠ some X ∧ p.2.ownBlock ≠ some X) :
    Calls Tryd.prog 13 #[v, .int .i64 k0] w fun e w' => e = .returned (.int .i64 (nkEs k0 (zs.map Prod.fst))) ∧ ∃ ys, ys.map Prod.fst = mkEs k0 (zs.map Prod.fst) ∧ OwnK w' base v ys ∧ RowsI w' base ys ∧ Below base w w' ∧ w'.heap[X]? = w.heap[X]? := by
  have OFF := Lib.hid (OffK.of hv hr ha)
  have HV := Lib.hid hv
  have HR := Lib.hid hr.ints
  have HLOW : Hid (∀ p ∈ zs.map Prod.snd, (∀ i, p.1.ownBlock = some i → base ≤ i) ∧ (∀ i, p.2.ownBlock = some i → base ≤ i)) := Lib.hid fun p hp => by
    obtain ⟨z, hz, rfl⟩ := List.mem_map.1 hp
    exact ⟨fun i hi => (World.ownsRow.lt (hr z hz).1 i hi).1, fun i hi => (World.ownsRow.lt (hr z hz).2 i hi).1⟩
  obtain ⟨es, hes⟩ : ∃ es, zs.map Prod.fst = es := ⟨_, rfl⟩
  have HES := Lib.hid hes
  obtain ⟨A, c, rfl, hc, hm, hA⟩ := hv.form
  have HXV : Hid (∀ b, A = some ⟨b, 0, none⟩ → X ≠ b) := Lib.hid (fun b hb e => hXv (by rw [hb, e]; rfl))
  have HX0 := Lib.hid hX
  have HXZ := Lib.hid hXz
  clear hXv hX hXz
  have HA := Lib.hid (show zs = [] ∨ ∃ b, A = some ⟨b, 0, none⟩ ∧ base ≤ b from hA.imp id fun ⟨b, h1, h2, _⟩ => ⟨b, h1, h2⟩)
  obtain ⟨n, hn⟩ : ∃ n, zs.length = n := ⟨_, rfl⟩
  have HN := Lib.hid hn
  have HB0 := Lib.hid hb
  rw [hes] at h1 ⊢
  have H1 := Lib.hid h1
  rw [hn] at hm HV OFF ⊢
  clear hv hr ha hes hA hn hb h1
  go_enter Tryd.func13, Tryd.ntmps13
  go_wp2_with fail
  go_loopw [1, 5] (fun kk i wr => ∃ (j : Nat) (m : Int) (ys : List ((Int × Int × List Int × ByteArray × Int × List Int) × Value × Value)), j ≤ n ∧ i = .int .i64 (j : Int) ∧ kk = .int .i64 m ∧ Hid (m = nkEs k0 (es.take j)) ∧ Hid (ys.map Prod.fst = mkEs k0 (es.take j) ++ es.drop j) ∧ Hid (ys.map Prod.snd = zs.map Prod.snd) ∧ Hid (OwnK wr base (.slice A n c) ys) ∧ Hid (RowsI wr base ys) ∧ Hid (Below base w wr) ∧ Hid (wr.heap[X]? = w.heap[X]?)) (fun _ i _ => n - (intOf i).toNat)
  case atStart => exact ⟨0, k0, zs, Nat.zero_le _, rfl, rfl, Lib.hid rfl, Lib.hid HES.out, Lib.hid rfl, HV, HR, Lib.hid (Below.refl _ _), Lib.hid rfl⟩
  case round =>
    obtain ⟨j, m, ys, hj, rfl, rfl, HM, HF, HS, OK, RI, HB, HX⟩ := hrel
    by_cases hlt : j < n
    · have hlt' : (j : Int) < (n : Int) := by omega
      have hji0 : (0 : Int) ≤ (j : Int) := by omega
      obtain ⟨b, rfl, hbb⟩ := HA.out.resolve_left (fun h => by have := HN.out; rw [h] at this; simp at this; omega)
      have hXb := HXV.out b rfl
      obtain ⟨x, hx⟩ : ∃ x, es[j]? = some x := ⟨es[j]'(by rw [← HES.out, List.length_map, HN.out]; exact hlt), List.getElem?_eq_getElem _⟩
      have hyj : (ys.map Prod.fst)[j]? = some x := by rw [HF.out]; exact mkEs_at k0 es j x hx
      obtain ⟨⟨x', q, d⟩, hz, hzx⟩ : ∃ z, ys[j]? = some z ∧ z.1 = x := by
        rw [List.getElem?_map] at hyj
        exact Option.map_eq_some_iff.1 hyj
      dsimp only at hzx
      subst hzx
      have hnk := nkEs_take k0 es j x' hx
      have hnl := nkEs_mono k0 es (j + 1)
      rw [hnk, ← HM.out] at hnl
      have hm0 : 0 ≤ m := by rw [HM.out]; exact Int.le_trans h0 (nkEs_le _ _)
      obtain ⟨f, k, qs, nm, p, ds⟩ := x'
      have HZ := Lib.hid hz
      have HNK := Lib.hid hnk
      have HSET := Lib.hid (mkEs_set k0 es j _ hx)
      have OF := Lib.hid (show OffK (.slice (some ⟨b, 0, none⟩) n c) (ys.map Prod.snd) by rw [HS.out]; exact OFF.out)
      have hof := OF.out.2 (q, d) (by rw [List.mem_iff_getElem?]; exact ⟨j, by rw [List.getElem?_map, hz]; rfl⟩)
      have HOQ := Lib.hid (apart_symm hof.1)
      have HLO := Lib.hid (HLOW.out (q, d) (by rw [← HS.out, List.mem_iff_getElem?]; exact ⟨j, by rw [List.getElem?_map, hz]; rfl⟩))
      have HOD := Lib.hid (apart_symm hof.2)
      have HXP := Lib.hid (HXZ.out (q, d) (by rw [← HS.out, List.mem_iff_getElem?]; exact ⟨j, by rw [List.getElem?_map, hz]; rfl⟩))
      obtain ⟨hq, hd⟩ := RI.out _ (List.mem_of_getElem? hz)
      dsimp only at hq hd
      obtain ⟨Aq, cq, rfl, _, _, _⟩ := hq.open_
      obtain ⟨Ad, cd, rfl, _, _, _⟩ := hd.open_
      have hm1 : m + 4 + (qs.length : Int) + (ds.length : Int) ≤ 1099511627776 := by
        have h := Int.le_trans hnl H1.out
        unfold nkE at h
        dsimp only at h
        omega
      have C := seg_cells OK.out hz
      obtain ⟨y0, y1, y2, y3, y4, y5⟩ := C
      have f0 := seg_free OK.out hz (j * 6)
      have f1 := seg_free OK.out hz (j * 6 + 1)
      obtain ⟨W1, hW1⟩ : ∃ W1, (wr.setCell ⟨b, j * 6, none⟩ (.int .i64 m)).setCell ⟨b, j * 6 + 1, none⟩ (.int .i64 (m + 1)) = W1 := ⟨_, rfl⟩
      have OK1 : Hid (OwnK W1 base (.slice (some ⟨b, 0, none⟩) n c) (ys.set j ((m, m + 1, qs, nm, p, ds), .slice Aq qs.length cq, .slice Ad ds.length cd))) := Lib.hid (by
        have h := (OK.out.setT hz (t := 0) (u := .int .i64 m) (z' := ((m, k, qs, nm, p, ds), .slice Aq qs.length cq, .slice Ad ds.length cd)) (by omega) rfl).setT (set_at hz _) (t := 1) (u := .int .i64 (m + 1)) (z' := ((m, m + 1, qs, nm, p, ds), .slice Aq qs.length cq, .slice Ad ds.length cd)) (by omega) rfl
        rw [List.set_set] at h
        rw [← hW1]
        exact h)
      have RI1 : Hid (RowsI W1 base ys) := Lib.hid (by rw [← hW1]; exact (RI.out.far OF.out).far OF.out)
      have HB1 : Hid (Below base w W1) := Lib.hid (by rw [← hW1]; exact (HB.out.setCell (p := ⟨b, j * 6, none⟩) hbb _).setCell (p := ⟨b, j * 6 + 1, none⟩) hbb _)
      have HX1 : Hid (W1.heap[X]? = w.heap[X]?) := Lib.hid (by rw [← hW1]; exact (Below.heap_setCell _ _ _ X hXb).trans ((Below.heap_setCell _ _ _ X hXb).trans HX.out))
      have HB01 : Hid (base ≤ W1.heap.size) := Lib.hid (Nat.le_trans HB0.out HB1.out.size)
      have C1 := seg_cells OK1.out (set_at hz _)
      obtain ⟨z0, z1, z2, z3, z4, z5⟩ := C1
      have g3 := seg_free OK1.out (set_at hz ((m, m + 1, qs, nm, p, ds), .slice Aq qs.length cq, .slice Ad ds.length cd)) (j * 6 + 3)
      have hkq : 0 ≤ m + 1 + 1 ∧ m + 1 + 1 ≤ 1099511627776 := by omega
      have hql : qs.length ≤ 1099511627776 := by omega
      have hdl : ds.length ≤ 1099511627776 := by omega
      clear hz hx hyj hnk hnl hq hd hof OK RI HB
      have HQ1 := Lib.hid (RI1.out _ (List.mem_of_getElem? HZ.out)).1
      go_wp2_with fail
      clear hW1
      refine (markIntS_any _ qs base _ _ HQ1.out hkq.1 hkq.2 hql).mono ?_
      rintro e w2 ⟨rfl, i2, g2⟩
      obtain ⟨T, hT⟩ : ∃ T, mText (m + 1 + 1 + (qs.length : Int)) = T := ⟨_, rfl⟩
      have OK2 := Lib.hid (OK1.out.keep g2 HOQ.out)
      have RI2 := Lib.hid (RI1.out.quad OF.out HZ.out g2 i2 (m, m + 1, marks (m + 1 + 1) qs.length, T, m + 1 + 1 + (qs.length : Int) + 1, ds) ⟨rfl, rfl⟩)
      have HB2 := Lib.hid (HB1.out.grown g2 HB01.out HLO.out.1)
      have HX2 := Lib.hid ((g2.block X (Nat.lt_of_lt_of_le HX0.out HB1.out.size) (Ne.symm HXP.out.1)).trans HX1.out)
      clear i2 g2 OK1 RI1 HB1 HQ1 z0 z1 z2 z3 z4 z5 y0 y1 y2 y3 y4 y5 f0 f1 g3
      obtain ⟨z0, z1, z2, z3, z4, z5⟩ := seg_cells OK2.out (set_at HZ.out _)
      have hk2 : 0 ≤ m + 1 + 1 + (qs.length : Int) ∧ m + 1 + 1 + (qs.length : Int) ≤ 1099511627776 := by omega
      go_wp2_with fail
      refine (markText_any _ _ hk2.1 hk2.2).mono ?_
      rintro e w3 ⟨rfl, b3⟩
      rw [hT]
      have OK3 := Lib.hid (OK2.out.below b3)
      have RI3 := Lib.hid (RI2.out.below b3)
      have HB3 := Lib.hid (HB2.out.trans (b3.mono (Nat.le_trans HB0.out HB2.out.size)))
      have HX3 := Lib.hid ((b3.block X (Nat.lt_of_lt_of_le HX0.out HB2.out.size)).trans HX2.out)
      clear b3 OK2 RI2 HB2 z0 z1 z2 z3 z4 z5
      obtain ⟨z0, z1, z2, z3, z4, z5⟩ := seg_cells OK3.out (set_at HZ.out _)
      have g3 := seg_free OK3.out (set_at HZ.out _) (j * 6 + 3)
      have g4 := seg_free OK3.out (set_at HZ.out _) (j * 6 + 4)
      have e3 := seg_free OK3.out (set_at HZ.out _) (j * 6 + 1 + 2)
      have e4 := seg_free OK3.out (set_at HZ.out _) (j * 6 + 1 + 3)
      go_wp2_with fail
      obtain ⟨W4, hW4⟩ : ∃ W4, (w3.setCell ⟨b, j * 6 + 1 + 2, none⟩ (.string T)).setCell ⟨b, j * 6 + 1 + 3, none⟩ (.int .i64 (m + 1 + 1 + (qs.length : Int) + 1)) = W4 := ⟨_, rfl⟩
      rw [hW4]
      have OK4 : Hid (OwnK W4 base (.slice (some ⟨b, 0, none⟩) n c) (ys.set j ((m, m + 1, qs, T, m + 1 + 1 + (qs.length : Int) + 1, ds), .slice Aq qs.length cq, .slice Ad ds.length cd))) := Lib.hid (by
        have h := (OK3.out.setT (set_at HZ.out _) (t := 3) (u := .string T) (z' := ((m, m + 1, qs, T, p, ds), .slice Aq qs.length cq, .slice Ad ds.length cd)) (by omega) rfl).setT (set_at (set_at HZ.out _) _) (t := 4) (u := .int .i64 (m + 1 + 1 + (qs.length : Int) + 1)) (z' := ((m, m + 1, qs, T, m + 1 + 1 + (qs.length : Int) + 1, ds), .slice Aq qs.length cq, .slice Ad ds.length cd)) (by omega) rfl
        rw [List.set_set, List.set_set] at h
        rw [← hW4]
        exact h)
      have OF2 := Lib.hid (show OffK (.slice (some ⟨b, 0, none⟩) n c) ((ys.set j ((m, m + 1, marks (m + 1 + 1) qs.length, T, m + 1 + 1 + (qs.length : Int) + 1, ds), .slice Aq qs.length cq, .slice Ad ds.length cd)).map Prod.snd) by rw [set_snd HZ.out]; exact OF.out)
      have RI4 : Hid (RowsI W4 base (ys.set j ((m, m + 1, marks (m + 1 + 1) qs.length, T, m + 1 + 1 + (qs.length : Int) + 1, ds), .slice Aq qs.length cq, .slice Ad ds.length cd))) := Lib.hid (by rw [← hW4]; exact (RI3.out.far OF2.out).far OF2.out)
      have HB4 : Hid (Below base w W4) := Lib.hid (by rw [← hW4]; exact (HB3.out.setCell (p := ⟨b, j * 6 + 1 + 2, none⟩) hbb _).setCell (p := ⟨b, j * 6 + 1 + 3, none⟩) hbb _)
      have HX4 : Hid (W4.heap[X]? = w.heap[X]?) := Lib.hid (by rw [← hW4]; exact (Below.heap_setCell _ _ _ X hXb).trans ((Below.heap_setCell _ _ _ X hXb).trans HX3.out))
      have HD4 := Lib.hid (RI4.out _ (List.mem_of_getElem? (set_at HZ.out _))).2
      have hk4 : 0 ≤ m + 1 + 1 + (qs.length : Int) + 1 + 1 ∧ m + 1 + 1 + (qs.length : Int) + 1 + 1 ≤ 1099511627776 := by omega
      clear hW4 OK3 RI3 HB3 z0 z1 z2 z3 z4 z5 g3 g4 e3 e4
      refine (markIntS_any _ ds base _ _ HD4.out hk4.1 hk4.2 hdl).mono ?_
      rintro e w5 ⟨rfl, i5, g5⟩
      have OK5 := Lib.hid ((OK4.out.keep g5 HOD.out).swap (set_at HZ.out _) (mkE m (f, k, qs, nm, p, ds), .slice Aq qs.length cq, .slice Ad ds.length cd) (by rw [← hT]; rfl))
      rw [List.set_set] at OK5
      have RI5 := Lib.hid (RI4.out.data OF2.out (set_at HZ.out _) g5 i5 (mkE m (f, k, qs, nm, p, ds)) ⟨rfl, rfl⟩)
      rw [List.set_set] at RI5
      have HB5 := Lib.hid (HB4.out.grown g5 (Nat.le_trans HB0.out HB4.out.size) HLO.out.2)
      have HM5 : Hid (m + 1 + 1 + (qs.length : Int) + 1 + 1 + (ds.length : Int) = nkEs k0 (es.take (j + 1))) := Lib.hid (by rw [HNK.out, ← HM.out]; rfl)
      have HF5 : Hid ((ys.set j (mkE m (f, k, qs, nm, p, ds), .slice Aq qs.length cq, .slice Ad ds.length cd)).map Prod.fst = mkEs k0 (es.take (j + 1)) ++ es.drop (j + 1)) := Lib.hid (by rw [List.map_set, HF.out, ← HSET.out, ← HM.out])
      have HS5 : Hid ((ys.set j (mkE m (f, k, qs, nm, p, ds), .slice Aq qs.length cq, .slice Ad ds.length cd)).map Prod.snd = zs.map Prod.snd) := Lib.hid ((set_snd HZ.out _).trans HS.out)
      have HX5 := Lib.hid ((g5.block X (Nat.lt_of_lt_of_le HX0.out HB4.out.size) (Ne.symm HXP.out.2)).trans HX4.out)
      clear i5 g5 OK4 RI4 HB4 HD4 hT
      go_wp2_with fail
      go_roundw
      case rel => exact ⟨j + 1, _, _, by omega, by go_num, rfl, HM5, HF5, HS5, OK5, RI5, HB5, HX5⟩
      case measure => simp [intOf]; omega
    · have hge : ¬ (j : Int) < (n : Int) := by omega
      have hjn : j = n := by omega
      have HLN : Hid (es.length = n) := Lib.hid (by rw [← HES.out, List.length_map, HN.out])
      have HF2 : Hid (ys.map Prod.fst = mkEs k0 es) := Lib.hid (by
        have h := HF.out
        rwa [hjn, List.take_of_length_le (by rw [HLN.out]; omega), List.drop_of_length_le (by rw [HLN.out]; omega), List.append_nil] at h)
      have HM2 : Hid (m = nkEs k0 es) := Lib.hid (by rw [HM.out, hjn, List.take_of_length_le (by rw [HLN.out]; omega)])
      clear hlt hjn
      go_wp2_with fail
      go_ret
      exact ⟨by rw [← HM2.out]; rfl, ys, HF2.out, OK.out, RI.out, HB.out, HX.out⟩
end Go.Proofs.YtpcflkdeoafpeaaDoor

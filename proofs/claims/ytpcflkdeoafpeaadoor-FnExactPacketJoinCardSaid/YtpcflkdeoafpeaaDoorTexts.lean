/-
  Rows of bytes that a call makes: filled place by place, or appended to. Conditions: lengths below 2^40.
  Between texts and lists of numbers (textBytes, l1Text; bytesText, l1Bytes), and the copy of a list that came in (toIntS). Conditions: lengths below 2^40; the numbers are bytes.
-/
import Derived.Test.YtpcflkdeoafpeaaDoorStr
import Derived.Test.YtpcflkdeoafpeaaDoorMarks
import Derived.Test.YtpcflkdeoafpeaaDoorReader
namespace Go.Proofs.YtpcflkdeoafpeaaDoor
open Go.RowKit

def uv (zs : List Int) : List Value := zs.map (Value.int .u8)
theorem uv_length (zs : List Int) : (uv zs).length = zs.length := by simp [uv]
theorem uv_get {zs : List Int} {j : Nat} (h : j < zs.length) : (uv zs)[j]? = some (.int .u8 (zs.getD j 0)) := by simp [uv, List.getD, h]
theorem uv_set (zs : List Int) (j : Nat) (x : Int) : (uv zs).set j (.int .u8 x) = uv (zs.set j x) := by simp [uv, List.map_set]
theorem uv_append (xs ys : List Int) : uv (xs ++ ys) = uv xs ++ uv ys := by simp [uv]
theorem uint8_info : (Tryd.prog.info? 5).map (fun i => (i.zero, i.size, i.bytes)) = some (some (.int .u8 0), 1, 1) := by kernel_rfl
theorem made_zero8 (n : Nat) : madeCells #[Value.int .u8 0] n = (uv (List.replicate n 0)).toArray := by
  apply Array.toList_inj.1
  rw [toList_madeCells_one]
  simp [uv]
/-- 'make([]byte, n)' -/
theorem mk_bytes (n : Nat) (hn : n ≤ 1099511627776) (u : World) : (Instr.makeSlice 22 (.int .i64 (n : Int)) (.int .i64 (n : Int))).run Tryd.prog u = .ok (.slice (some ⟨u.heap.size, 0, none⟩) n n) (u.alloc (.cells (uv (List.replicate n 0)).toArray 5)) := by
  obtain ⟨i0, hi, hz0, hz1, hz2⟩ := info_parts uint8_info
  have h := run_make (P := Tryd.prog) u 22 5 i0 (.int .u8 0) Tryd.underlying22 hi hz0 .i64 .i64 (n : Int) (n : Int) (by omega) (Int.le_refl _) (by rw [hz2]; omega) (by omega)
  simp only [Int.toNat_natCast, hz1, Nat.mul_one] at h
  rw [← made_zero8]
  exact h
theorem Seg.u8_at {w : World} {e : TypeId} {b o j : Nat} {zs : List Int} (h : Seg w e b o (uv zs)) (hj : j < zs.length) : w.cell? ⟨b, o + j, none⟩ = some (.int .u8 (zs.getD j 0)) := h.cell (uv_get hj)
theorem Seg.new (w : World) (e : TypeId) (xs : List Value) : Seg (w.alloc (.cells xs.toArray e)) e w.heap.size 0 xs := ⟨xs.toArray, heap_alloc_new w _, fun j u hu => by simpa using hu⟩
/-- The whole row as a string. -/
theorem str_of_row {w : World} {b n c : Nat} {zs : List Int} (h : Seg w 5 b 0 (uv zs)) (hn : zs.length = n) :
    (convert 22 9 (.slice (some ⟨b, 0, none⟩) n c)).run Tryd.prog w = .ok (.string (strOfNums zs)) w :=
  run_convert_bytes_arg (P := Tryd.prog) w 22 5 Tryd.underlying22 Tryd.underlying5 b 0 n c zs hn (fun i hi => h.u8_at (by omega)) 9 Tryd.underlying9

/-- v is a slice of bytes that the call owns. -/
def OwnB (w : World) (base : Nat) (v : Value) (zs : List Int) : Prop := w.ownsRow base 5 1 v zs.length (uv zs)
theorem OwnB.alloc {w : World} {base : Nat} {v : Value} {zs : List Int} (h : OwnB w base v zs) (o : Obj) : OwnB (w.alloc o) base v zs := World.ownsRow.alloc h o
theorem OwnB.lit (w : World) (zs : List Int) (base : Nat) (hb : base ≤ w.heap.size) (hm : zs.length ≤ 9223372036854775807) :
    OwnB (w.alloc (.cells (uv zs).toArray 5)) base (.slice (some ⟨w.heap.size, 0, none⟩) zs.length zs.length) zs := by
  have h := World.ownsRow_lit (base := base) (e := 5) (size := 1) w (uv zs).toArray zs.length hb (by unfold maxLen; omega) (by simp [uv])
  simpa [OwnB] using h
theorem OwnB.seg {w : World} {base : Nat} {v : Value} {zs : List Int} (h : OwnB w base v zs) : (v = .slice none 0 0 ∧ zs = []) ∨ ∃ b c, v = .slice (some ⟨b, 0, none⟩) zs.length c ∧ Seg w 5 b 0 (uv zs) := by
  rcases h.2 with ⟨rfl, h0⟩ | ⟨g, cap, cur, rfl, hb, hh, hnc, hcm, _, ht⟩
  · exact .inl ⟨rfl, List.eq_nil_of_length_eq_zero h0⟩
  · refine .inr ⟨g, cap, rfl, cur, hh, fun j u hu => ?_⟩
    rw [← ht, List.getElem?_take] at hu
    split at hu
    · simpa using hu
    · cases hu
theorem below_ownB {base : Nat} {w w' : World} {v : Value} {zs : List Int} (h : OwnB w base v zs) (hg : w.grownBy w' v.ownBlock) (hb : base ≤ w.heap.size) : Below base w w' :=
  (Below.refl base w).grown hg hb fun k hk => (World.ownsRow.lt h k hk).1
theorem slB1 (w : World) (y : Int) : Sl (w.alloc (.cells #[.int .u8 y] 5)) 5 1 0 (.slice (some ⟨w.heap.size, 0, none⟩) 1 1) 1 (uv [y]) := Sl.of_own (OwnB.lit w [y] 0 (Nat.zero_le _) (by simp))
/-- 'append(s, x)' of one byte, s the call's own. -/
theorem wp_u8 {w : World} {ops : Array Oper} {rest : List Oper} {o : Oper} {a : Act} {Q : Exit → Act → World → Prop} (hgd : o.guard = none) (s x : Operand)
    (ho : o.op = .call { callee := .builtin .append, args := #[s, x], argTypes := #[22, 22] })
    {base : Nat} {v u : Value} {zs ys : List Int} (hs : a.eval s = v) (hx : a.eval x = u) (hown : OwnB w base v zs) (hr : Sl w 5 1 0 u ys.length (uv ys))
    (hlen : zs.length + ys.length ≤ 1099511627776) (hbase : base ≤ w.heap.size)
    (h : ∀ v' w', OwnB w' base v' (zs ++ ys) → Below base w w' → wpList Tryd.prog ops Q rest (a.put o.dst v') w') : wpList Tryd.prog ops Q (o :: rest) a w := by
  obtain ⟨i0, hi, hz0, hz1, hz2⟩ := info_parts uint8_info
  refine wpList_plain hgd fun _ hK => wp_append_sl w s x 22 ho base 5 i0 _ 1 1 Tryd.underlying22 hi hz0 hz1 hz2 rfl (by omega) v zs.length (uv zs) hs hown 0 u ys.length (uv ys) hx hr (ints_oneCell .u8 ys)
    (by unfold maxLen; omega) (by omega) hbase fun v' w' h2 h3 h4 => hK _ _ (h v' w' ?_ (below_ownB hown h3 hbase))
  unfold OwnB
  rw [uv_append, List.length_append]
  exact h2
end Go.Proofs.YtpcflkdeoafpeaaDoor
namespace Go.Proofs.YtpcflkdeoafpeaaDoor
open Go.RowKit

theorem numsOf_take_succ {s : ByteArray} {k : Nat} (h : k < s.size) : (numsOf s).take (k + 1) = (numsOf s).take k ++ [(s[k].toNat : Int)] := by
  have hl : k < (numsOf s).length := by rw [numsOf_length]; exact h
  rw [List.take_succ_eq_append_getElem hl]
  have h2 := numsOf_get h
  simp only [List.getD, List.getElem?_eq_getElem hl, Option.getD_some] at h2
  rw [h2]

set_option maxHeartbeats 400000 in
theorem toIntS_any (v : Value) (zs : List Int) (hi : Nat) (w : World) (hv : Came .i64 w hi v zs) (hh : hi ≤ w.heap.size) (hl : zs.length ≤ 1099511627776) :
    Calls Tryd.prog 44 #[v] w fun e w' => ∃ u, e = .returned u ∧ Own w' w.heap.size u zs ∧ Below w.heap.size w w' := by
  obtain ⟨A, c, rfl, hc, hm, _, hA⟩ := hv
  obtain ⟨n, hx⟩ : ∃ n, zs.length = n := ⟨_, rfl⟩
  rw [hx] at hc hl ⊢
  have hmk := mk_ints n hl
  have HX := Lib.hid hx
  clear hx
  have HA := Lib.hid hA
  clear hA
  go_enter Tryd.func44, Tryd.ntmps44
  go_wp2
  go_loopw [4] (fun i wr => ∃ k : Nat, k ≤ n ∧ i = .int .i64 k ∧ Hid (Own wr w.heap.size (.slice (some ⟨w.heap.size, 0, none⟩) n n) (fillTo zs k)) ∧ Hid (Below w.heap.size w wr)) (fun i _ => n - (intOf i).toNat)
  case atStart =>
    refine ⟨0, Nat.zero_le _, rfl, Lib.hid ?_, Lib.hid ((Below.refl _ _).alloc (Nat.le_refl _) _)⟩
    have h := Own.lit w (List.replicate n 0) w.heap.size (Nat.le_refl _) (by simp; omega)
    rw [fillTo_zero, HX.out]
    simpa using h
  case round =>
    obtain ⟨k, hk, rfl, HO, HB⟩ := hrel
    have HF : Hid ((fillTo zs k).length = n) := Lib.hid (by rw [fillTo_length (by rw [HX.out]; exact hk), HX.out])
    by_cases hlt : k < n
    · have hi1 : (k : Int) < (n : Int) := by omega
      obtain ⟨b, o, rfl, hb, hcell⟩ := HA.out.resolve_left (fun h => by have := HX.out; rw [h] at this; simp at this; omega)
      have c1 : wr.cell? ⟨b, o + k, none⟩ = some (.int .i64 (zs.getD k 0)) := (HB.out.cell (p := ⟨b, o + k, none⟩) (by show b < _; omega)).trans (hcell k (by rw [HX.out]; exact hlt))
      obtain ⟨x, hx⟩ : ∃ x, zs.getD k 0 = x := ⟨_, rfl⟩
      have cc := HO.out.cell (j := k) (by rw [HF.out]; exact hlt)
      have ff := HO.out.frozen k
      obtain ⟨y, hy⟩ : ∃ y, (fillTo zs k).getD k 0 = y := ⟨_, rfl⟩
      rw [hy] at cc
      have h2 := HO.out.store_ (j := k) HF.out (zs.getD k 0)
      rw [fillTo_step (by rw [HX.out]; exact hlt), hx] at h2
      rw [hx] at c1
      have HO2 := Lib.hid h2
      have HB2 := Lib.hid (HB.out.setCell (p := ⟨w.heap.size, k, none⟩) (Nat.le_refl _) (.int .i64 x))
      clear h2 hx hy HO hcell
      go_wp2
      go_roundw
      case rel => exact ⟨k + 1, by omega, by go_num, HO2, HB2⟩
      case measure => simp [intOf]; omega
    · have HO2 : Hid (Own wr w.heap.size (.slice (some ⟨w.heap.size, 0, none⟩) n n) zs) := Lib.hid (by
        have h := HO.out
        rwa [fillTo_all (by rw [HX.out]; omega)] at h)
      go_wp2
      go_ret
      exact ⟨_, rfl, HO2.out, HB.out⟩
end Go.Proofs.YtpcflkdeoafpeaaDoor

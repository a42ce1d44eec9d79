/-
  Rows of bytes that a call makes: filled place by place, or appended to. Conditions: lengths below 2^40.
  Between texts and lists of numbers (textBytes, l1Text; bytesText, l1Bytes), and the copy of a list that came in (toIntS). Conditions: lengths below 2^40; the numbers are bytes.
-/
import Derived.Test.YtolbkdcnmkmncaaDoorStr
import Derived.Test.YtolbkdcnmkmncaaDoorMarks
import Derived.Test.YtolbkdcnmkmncaaDoorReader
namespace Go.Proofs.YtolbkdcnmkmncaaDoor
open Go.RowKit

def uv (zs : List Int) : List Value := zs.map (Value.int .u8)
theorem uv_length (zs : List Int) : (uv zs).length = zs.length := by simp [uv]
theorem uv_get {zs : List Int} {j : Nat} (h : j < zs.length) : (uv zs)[j]? = some (.int .u8 (zs.getD j 0)) := by simp [uv, List.getD, h]
theorem uv_set (zs : List Int) (j : Nat) (x : Int) : (uv zs).set j (.int .u8 x) = uv (zs.set j x) := by simp [uv, List.map_set]
theorem uv_append (xs ys : List Int) : uv (xs ++ ys) = uv xs ++ uv ys := by simp [uv]
theorem uint8_info : (Tryd.prog.info? 5).map (fun i => (i.zero, i.size, i.bytes)) = some (some (.int .u8 0), 1, 1) := by kernel_rfl
theorem made_zero8 (n : Nat) : madeCells #[Value.int .u8 0] n = (uv (List.replicate n 0)).toArray := by
  apply Array.toList_inj.1
  rw [toList_madeCells_one]
  simp [uv]
/-- 'make([]byte, n)' -/
theorem mk_bytes (n : Nat) (hn : n ≤ 1099511627776) (u : World) : (Instr.makeSlice 22 (.int .i64 (n : Int)) (.int .i64 (n : Int))).run Tryd.prog u = .ok (.slice (some ⟨u.heap.size, 0, none⟩) n n) (u.alloc (.cells (uv (List.replicate n 0)).toArray 5)) := by
  obtain ⟨i0, hi, hz0, hz1, hz2⟩ := info_parts uint8_info
  have h := run_make (P := Tryd.prog) u 22 5 i0 (.int .u8 0) Tryd.underlying22 hi hz0 .i64 .i64 (n : Int) (n : Int) (by omega) (Int.le_refl _) (by rw [hz2]; omega) (by omega)
  simp only [Int.toNat_natCast, hz1, Nat.mul_one] at h
  rw [← made_zero8]
  exact h
theorem Seg.u8_at {w : World} {e : TypeId} {b o j : Nat} {zs : List Int} (h : Seg w e b o (uv zs)) (hj : j < zs.length) : w.cell? ⟨b, o + j, none⟩ = some (.int .u8 (zs.getD j 0)) := h.cell (uv_get hj)
theorem Seg.new (w : World) (e : TypeId) (xs : List Value) : Seg (w.alloc (.cells xs.toArray e)) e w.heap.size 0 xs := ⟨xs.toArray, heap_alloc_new w _, fun j u hu => by simpa using hu⟩
/-- The whole row as a string. -/
theorem str_of_row {w : World} {b n c : Nat} {zs : List Int} (h : Seg w 5 b 0 (uv zs)) (hn : zs.length = n) :
    (convert 22 9 (.slice (some ⟨b, 0, none⟩) n c)).run Tryd.prog w = .ok (.string (strOfNums zs)) w :=
  run_convert_bytes_arg (P := Tryd.prog) w 22 5 Tryd.underlying22 Tryd.underlying5 b 0 n c zs hn (fun i hi => h.u8_at (by omega)) 9 Tryd.underlying9

/-- v is a slice of bytes that the call owns. -/
def OwnB (w : World) (base : Nat) (v : Value) (zs : List Int) : Prop := w.ownsRow base 5 1 v zs.length (uv zs)
theorem OwnB.alloc {w : World} {base : Nat} {v : Value} {zs : List Int} (h : OwnB w base v zs) (o : Obj) : OwnB (w.alloc o) base v zs := World.ownsRow.alloc h o
theorem OwnB.lit (w : World) (zs : List Int) (base : Nat) (hb : base ≤ w.heap.size) (hm : zs.length ≤ 9223372036854775807) :
    OwnB (w.alloc (.cells (uv zs).toArray 5)) base (.slice (some ⟨w.heap.size, 0, none⟩) zs.length zs.length) zs := by
  have h := World.ownsRow_lit (base := base) (e := 5) (size := 1) w (uv zs).toArray zs.length hb (by unfold maxLen; omega) (by simp [uv])
  simpa [OwnB] using h
theorem OwnB.seg {w : World} {base : Nat} {v : Value} {zs : List Int} (h : OwnB w base v zs) : (v = .slice none 0 0 ∧ zs = []) ∨ ∃ b c, v = .slice (some ⟨b, 0, none⟩) zs.length c ∧ Seg w 5 b 0 (uv zs) := by
  rcases h.2 with ⟨rfl, h0⟩ | ⟨g, cap, cur, rfl, hb, hh, hnc, hcm, _, ht⟩
  · exact .inl ⟨rfl, List.eq_nil_of_length_eq_zero h0⟩
  · refine .inr ⟨g, cap, rfl, cur, hh, fun j u hu => ?_⟩
    rw [← ht, List.getElem?_take] at hu
    split at hu
    · simpa using hu
    · cases hu
theorem below_ownB {base : Nat} {w w' : World} {v : Value} {zs : List Int} (h : OwnB w base v zs) (hg : w.grownBy w' v.ownBlock) (hb : base ≤ w.heap.size) : Below base w w' :=
  (Below.refl base w).grown hg hb fun k hk => (World.ownsRow.lt h k hk).1
theorem slB1 (w : World) (y : Int) : Sl (w.alloc (.cells #[.int .u8 y] 5)) 5 1 0 (.slice (some ⟨w.heap.size, 0, none⟩) 1 1) 1 (uv [y]) := Sl.of_own (OwnB.lit w [y] 0 (Nat.zero_le _) (by simp))
/-- 'append(s, x)' of one byte, s the call's own. -/
theorem wp_u8 {w : World} {ops : Array Oper} {rest : List Oper} {o : Oper} {a : Act} {Q : Exit → Act → World → Prop} (hgd : o.guard = none) (s x : Operand)
    (ho : o.op = .call { callee := .builtin .append, args := #[s, x], argTypes := #[22, 22] })
    {base : Nat} {v u : Value} {zs ys : List Int} (hs : a.eval s = v) (hx : a.eval x = u) (hown : OwnB w base v zs) (hr : Sl w 5 1 0 u ys.length (uv ys))
    (hlen : zs.length + ys.length ≤ 1099511627776) (hbase : base ≤ w.heap.size)
    (h : ∀ v' w', OwnB w' base v' (zs ++ ys) → Below base w w' → wpList Tryd.prog ops Q rest (a.put o.dst v') w') : wpList Tryd.prog ops Q (o :: rest) a w := by
  obtain ⟨i0, hi, hz0, hz1, hz2⟩ := info_parts uint8_info
  refine wpList_plain hgd fun _ hK => wp_append_sl w s x 22 ho base 5 i0 _ 1 1 Tryd.underlying22 hi hz0 hz1 hz2 rfl (by omega) v zs.length (uv zs) hs hown 0 u ys.length (uv ys) hx hr (ints_oneCell .u8 ys)
    (by unfold maxLen; omega) (by omega) hbase fun v' w' h2 h3 h4 => hK _ _ (h v' w' ?_ (below_ownB hown h3 hbase))
  unfold OwnB
  rw [uv_append, List.length_append]
  exact h2
end Go.Proofs.YtolbkdcnmkmncaaDoor
namespace Go.Proofs.YtolbkdcnmkmncaaDoor
open Go.RowKit

set_option maxHeartbeats 400000 in
theorem textBytes_any (s : ByteArray) (w : World) (hs : s.size ≤ 1099511627776) :
    Calls Tryd.prog 97 #[.string s] w fun e w' => ∃ v, e = .returned v ∧ Own w' w.heap.size v (numsOf s) ∧ Below w.heap.size w w' := by
  have hmk := mk_ints s.size hs
  have HL := Lib.hid (numsOf_length s)
  go_enter Tryd.func97, Tryd.ntmps97
  go_wp2
  go_loopw [10] (fun i wr => ∃ k : Nat, k ≤ s.size ∧ i = .int .i64 k ∧ Hid (Own wr w.heap.size (.slice (some ⟨w.heap.size, 0, none⟩) s.size s.size) (fillTo (numsOf s) k)) ∧ Hid (Below w.heap.size w wr)) (fun i _ => s.size - (intOf i).toNat)
  case atStart =>
    refine ⟨0, Nat.zero_le _, rfl, Lib.hid ?_, Lib.hid ((Below.refl _ _).alloc (Nat.le_refl _) _)⟩
    have h := Own.lit w (List.replicate s.size 0) w.heap.size (Nat.le_refl _) (by simp; omega)
    rw [fillTo_zero, HL.out]
    simpa using h
  case round =>
    obtain ⟨k, hk, rfl, HO, HB⟩ := hrel
    have HF : Hid ((fillTo (numsOf s) k).length = s.size) := Lib.hid (by rw [fillTo_length (by rw [HL.out]; exact hk), HL.out])
    by_cases hlt : k < s.size
    · have hi : (k : Int) < (s.size : Int) := by omega
      have cc := HO.out.cell (j := k) (by rw [HF.out]; exact hlt)
      have ff := HO.out.frozen k
      obtain ⟨y, hy⟩ : ∃ y, (fillTo (numsOf s) k).getD k 0 = y := ⟨_, rfl⟩
      rw [hy] at cc
      clear hy
      have h2 := HO.out.store_ (j := k) HF.out ((numsOf s).getD k 0)
      rw [fillTo_step (by rw [HL.out]; exact hlt), numsOf_get hlt] at h2
      have HO2 := Lib.hid h2
      have HB2 := Lib.hid (HB.out.setCell (p := ⟨w.heap.size, k, none⟩) (Nat.le_refl _) (.int .i64 (s[k].toNat : Int)))
      clear h2
      have hc8 : (s[k].toNat : Int) ≤ 255 := by have := s[k].toNat_lt; omega
      go_wp2
      go_roundw
      case rel => exact ⟨k + 1, by omega, by go_num, HO2, HB2⟩
      case measure => simp [intOf]; omega
    · have HO2 : Hid (Own wr w.heap.size (.slice (some ⟨w.heap.size, 0, none⟩) s.size s.size) (numsOf s)) := Lib.hid (by
        have h := HO.out
        rwa [fillTo_all (by rw [HL.out]; omega)] at h)
      go_wp2
      go_ret
      exact ⟨_, rfl, HO2.out, HB.out⟩

theorem numsOf_take_succ {s : ByteArray} {k : Nat} (h : k < s.size) : (numsOf s).take (k + 1) = (numsOf s).take k ++ [(s[k].toNat : Int)] := by
  have hl : k < (numsOf s).length := by rw [numsOf_length]; exact h
  rw [List.take_succ_eq_append_getElem hl]
  have h2 := numsOf_get h
  simp only [List.getD, List.getElem?_eq_getElem hl, Option.getD_some] at h2
  rw [h2]

set_option maxHeartbeats 400000 in
theorem l1Text_any (s : ByteArray) (w : World) (hs : s.size ≤ 1000000000000) :
    Calls Tryd.prog 100 #[.string s] w fun e w' => ∃ v, e = .returned v ∧ Own w' w.heap.size v (numsOf s) ∧ Below w.heap.size w w' := by
  have HL := Lib.hid (numsOf_length s)
  go_enter Tryd.func100, Tryd.ntmps100
  go_wp2
  go_loopw [3, 4] (fun o i wr => ∃ k : Nat, k ≤ s.size ∧ i = .int .i64 k ∧ Hid (Own wr w.heap.size o ((numsOf s).take k)) ∧ Hid (Below w.heap.size w wr)) (fun _ i _ => s.size - (intOf i).toNat)
  case atStart => exact ⟨0, Nat.zero_le _, rfl, Lib.hid (Own.lit w [] _ (Nat.le_refl _) (by simp)), Lib.hid ((Below.refl _ _).alloc (Nat.le_refl _) _)⟩
  case round =>
    obtain ⟨k, hk, rfl, HO, HB⟩ := hrel
    by_cases hlt : k < s.size
    · have hi : (k : Int) < (s.size : Int) := by omega
      have hsz := HB.out.size
      have hlen : ((numsOf s).take k).length ≤ k := List.length_take_le _ _
      have HT := Lib.hid (numsOf_take_succ hlt)
      have hc8 : (s[k].toNat : Int) ≤ 255 := by have := s[k].toNat_lt; omega
      go_wp2_with (at_builtin; refine wp_ints rfl (.tmp 12) (.tmp 17) rfl rfl rfl (HO.out.alloc _) (lit1 _ _) (by simp; omega) (by simp; omega) ?_; intro v2 w2 o2 b2 g2 k2)
      go_roundw
      case rel =>
        refine ⟨k + 1, by omega, by go_num, Lib.hid ?_, Lib.hid ((HB.out.alloc hsz _).trans b2)⟩
        rw [HT.out]
        exact o2
      case measure => simp [intOf]; omega
    · have HO2 : Hid (Own wr w.heap.size u3 (numsOf s)) := Lib.hid (by
        have h := HO.out
        rwa [List.take_of_length_le (by rw [HL.out]; omega)] at h)
      go_wp2
      go_ret
      exact ⟨_, rfl, HO2.out, HB.out⟩

set_option maxHeartbeats 400000 in
theorem bytesText_any (v : Value) (zs : List Int) (w : World) (hv : Ints w 0 v zs) (hb : ∀ x ∈ zs, 0 ≤ x ∧ x ≤ 255) (hl : zs.length ≤ 1099511627776) :
    Calls Tryd.prog 116 #[v] w fun e w' => e = .returned (.string (strOfNums zs)) ∧ Below w.heap.size w w' := by
  have HV := Lib.hid hv
  have HY := Lib.hid hb
  obtain ⟨A, c, rfl, hc, hm, _⟩ := hv.open_
  obtain ⟨n, hx⟩ : ∃ n, zs.length = n := ⟨_, rfl⟩
  rw [hx] at hc hl ⊢
  have hmk := mk_bytes n hl
  have HX := Lib.hid hx
  clear hv hb hx
  go_enter Tryd.func116, Tryd.ntmps116
  go_wp2
  go_loopw [11] (fun i wr => ∃ k : Nat, k ≤ n ∧ i = .int .i64 k ∧ Hid (Seg wr 5 w.heap.size 0 (uv (fillTo zs k))) ∧ Hid (Below w.heap.size w wr)) (fun i _ => n - (intOf i).toNat)
  case atStart =>
    refine ⟨0, Nat.zero_le _, rfl, Lib.hid ?_, Lib.hid ((Below.refl _ _).alloc (Nat.le_refl _) _)⟩
    rw [fillTo_zero, HX.out]
    exact Seg.new w _ _
  case round =>
    obtain ⟨k, hk, rfl, HS, HB⟩ := hrel
    have HF : Hid ((fillTo zs k).length = n) := Lib.hid (by rw [fillTo_length (by rw [HX.out]; exact hk), HX.out])
    by_cases hlt : k < n
    · have hi : (k : Int) < (n : Int) := by omega
      obtain ⟨A', c', he, _, _, hA⟩ := (HV.out.below HB.out).open_
      injection he with e1 e2 e3
      subst e1 e3
      obtain ⟨b, o, rfl, _, hb, hs⟩ := hA.resolve_left (fun h => by have := HX.out; rw [h] at this; simp at this; omega)
      have c1 := hs.int_at (j := k) (by rw [HX.out]; exact hlt)
      obtain ⟨x, hx⟩ : ∃ x, zs.getD k 0 = x := ⟨_, rfl⟩
      have hr : 0 ≤ x ∧ x ≤ 255 := by
        rw [← hx]
        exact HY.out _ (by simp [List.getD, (by rw [HX.out]; exact hlt : k < zs.length)])
      obtain ⟨hr0, hr1⟩ := hr
      have cc := HS.out.u8_at (j := k) (by rw [HF.out]; exact hlt)
      have ff := HS.out.frozen (0 + k)
      obtain ⟨y, hy⟩ : ∃ y, (fillTo zs k).getD k 0 = y := ⟨_, rfl⟩
      rw [hy, Nat.zero_add] at cc
      rw [Nat.zero_add] at ff
      have h2 := HS.out.set_ (j := k) (by rw [uv_length, HF.out]; exact hlt) (.int .u8 x)
      rw [uv_set, ← hx, fillTo_step (by rw [HX.out]; exact hlt), hx, Nat.zero_add] at h2
      rw [hx] at c1
      have HS2 := Lib.hid h2
      have HB2 := Lib.hid (HB.out.setCell (p := ⟨w.heap.size, k, none⟩) (Nat.le_refl _) (.int .u8 x))
      clear h2 hs hA hx hy e2 HS
      go_wp2
      go_roundw
      case rel => exact ⟨k + 1, by omega, by go_num, HS2, HB2⟩
      case measure => simp [intOf]; omega
    · have hS2 : Seg wr 5 w.heap.size 0 (uv zs) := by
        have h := HS.out
        rwa [fillTo_all (by rw [HX.out]; omega)] at h
      have hcv := str_of_row (c := n) hS2 HX.out
      clear hS2 HS
      go_wp2
      go_ret
      exact ⟨rfl, HB.out⟩

set_option maxHeartbeats 400000 in
theorem l1Bytes_any (v : Value) (zs : List Int) (w : World) (hv : Ints w 0 v zs) (hb : ∀ x ∈ zs, 0 ≤ x ∧ x ≤ 255) (hl : zs.length ≤ 1000000000000) :
    Calls Tryd.prog 104 #[v] w fun e w' => e = .returned (.string (strOfNums zs)) ∧ Below w.heap.size w w' := by
  have HV := Lib.hid hv
  have HY := Lib.hid hb
  obtain ⟨A, c, rfl, hc, hm, _⟩ := hv.open_
  obtain ⟨n, hx⟩ : ∃ n, zs.length = n := ⟨_, rfl⟩
  rw [hx] at hc hl ⊢
  have HX := Lib.hid hx
  clear hv hb hx
  go_enter Tryd.func104, Tryd.ntmps104
  go_wp2
  go_loopw [3, 4] (fun p i wr => ∃ k : Nat, k ≤ n ∧ i = .int .i64 k ∧ Hid (OwnB wr w.heap.size p (zs.take k)) ∧ Hid (Below w.heap.size w wr)) (fun _ i _ => n - (intOf i).toNat)
  case atStart => exact ⟨0, Nat.zero_le _, rfl, Lib.hid (OwnB.lit w [] _ (Nat.le_refl _) (by simp)), Lib.hid ((Below.refl _ _).alloc (Nat.le_refl _) _)⟩
  case round =>
    obtain ⟨k, hk, rfl, HO, HB⟩ := hrel
    by_cases hlt : k < n
    · have hi : (k : Int) < (n : Int) := by omega
      have hsz := HB.out.size
      obtain ⟨A', c', he, _, _, hA⟩ := (HV.out.below HB.out).open_
      injection he with e1 e2 e3
      subst e1 e3
      obtain ⟨b, o, rfl, _, hb, hs⟩ := hA.resolve_left (fun h => by have := HX.out; rw [h] at this; simp at this; omega)
      have c1 := hs.int_at (j := k) (by rw [HX.out]; exact hlt)
      obtain ⟨x, hx⟩ : ∃ x, zs.getD k 0 = x := ⟨_, rfl⟩
      have hr : 0 ≤ x ∧ x ≤ 255 := by
        rw [← hx]
        exact HY.out _ (by simp [List.getD, (by rw [HX.out]; exact hlt : k < zs.length)])
      obtain ⟨hr0, hr1⟩ := hr
      have HT : Hid (zs.take (k + 1) = zs.take k ++ [x]) := Lib.hid (by
        have hkl : k < zs.length := by rw [HX.out]; exact hlt
        rw [List.take_succ_eq_append_getElem hkl, ← hx]
        simp [List.getD, hkl])
      rw [hx] at c1
      have hlen : (zs.take k).length ≤ k := List.length_take_le _ _
      clear hs hA hx e2
      go_wp2_with (at_builtin; refine wp_u8 (ys := [x]) rfl (.tmp 12) (.tmp 18) rfl rfl rfl (HO.out.alloc _) (slB1 _ _) (by simp; omega) (by simp; omega) ?_; intro v2 w2 o2 b2)
      go_roundw
      case rel =>
        refine ⟨k + 1, by omega, by go_num, Lib.hid ?_, Lib.hid ((HB.out.alloc hsz _).trans b2)⟩
        rw [HT.out]
        exact o2
      case measure => simp [intOf]; omega
    · have hO2 : OwnB wr w.heap.size u3 zs := by
        have h := HO.out
        rwa [List.take_of_length_le (by rw [HX.out]; omega)] at h
      rcases hO2.seg with ⟨rfl, h0⟩ | ⟨b, c2, rfl, hs⟩
      · have hcv := run_convert_bytes_nil (P := Tryd.prog) wr 22 5 Tryd.underlying22 Tryd.underlying5 0 0 9 Tryd.underlying9
        have HE : Hid (strOfNums zs = ByteArray.empty) := Lib.hid (by rw [h0]; rfl)
        clear hO2 HO h0
        go_wp2
        go_ret
        exact ⟨by rw [HE.out]; rfl, HB.out⟩
      · have hcv := str_of_row (c := c2) hs rfl
        clear hO2 HO hs
        go_wp2
        go_ret
        exact ⟨rfl, HB.out⟩

set_option maxHeartbeats 400000 in
theorem toIntS_any (v : Value) (zs : List Int) (hi : Nat) (w : World) (hv : Came .i64 w hi v zs) (hh : hi ≤ w.heap.size) (hl : zs.length ≤ 1099511627776) :
    Calls Tryd.prog 39 #[v] w fun e w' => ∃ u, e = .returned u ∧ Own w' w.heap.size u zs ∧ Below w.heap.size w w' := by
  obtain ⟨A, c, rfl, hc, hm, _, hA⟩ := hv
  obtain ⟨n, hx⟩ : ∃ n, zs.length = n := ⟨_, rfl⟩
  rw [hx] at hc hl ⊢
  have hmk := mk_ints n hl
  have HX := Lib.hid hx
  clear hx
  have HA := Lib.hid hA
  clear hA
  go_enter Tryd.func39, Tryd.ntmps39
  go_wp2
  go_loopw [4] (fun i wr => ∃ k : Nat, k ≤ n ∧ i = .int .i64 k ∧ Hid (Own wr w.heap.size (.slice (some ⟨w.heap.size, 0, none⟩) n n) (fillTo zs k)) ∧ Hid (Below w.heap.size w wr)) (fun i _ => n - (intOf i).toNat)
  case atStart =>
    refine ⟨0, Nat.zero_le _, rfl, Lib.hid ?_, Lib.hid ((Below.refl _ _).alloc (Nat.le_refl _) _)⟩
    have h := Own.lit w (List.replicate n 0) w.heap.size (Nat.le_refl _) (by simp; omega)
    rw [fillTo_zero, HX.out]
    simpa using h
  case round =>
    obtain ⟨k, hk, rfl, HO, HB⟩ := hrel
    have HF : Hid ((fillTo zs k).length = n) := Lib.hid (by rw [fillTo_length (by rw [HX.out]; exact hk), HX.out])
    by_cases hlt : k < n
    · have hi1 : (k : Int) < (n : Int) := by omega
      obtain ⟨b, o, rfl, hb, hcell⟩ := HA.out.resolve_left (fun h => by have := HX.out; rw [h] at this; simp at this; omega)
      have c1 : wr.cell? ⟨b, o + k, none⟩ = some (.int .i64 (zs.getD k 0)) := (HB.out.cell (p := ⟨b, o + k, none⟩) (by show b < _; omega)).trans (hcell k (by rw [HX.out]; exact hlt))
      obtain ⟨x, hx⟩ : ∃ x, zs.getD k 0 = x := ⟨_, rfl⟩
      have cc := HO.out.cell (j := k) (by rw [HF.out]; exact hlt)
      have ff := HO.out.frozen k
      obtain ⟨y, hy⟩ : ∃ y, (fillTo zs k).getD k 0 = y := ⟨_, rfl⟩
      rw [hy] at cc
      have h2 := HO.out.store_ (j := k) HF.out (zs.getD k 0)
      rw [fillTo_step (by rw [HX.out]; exact hlt), hx] at h2
      rw [hx] at c1
      have HO2 := Lib.hid h2
      have HB2 := Lib.hid (HB.out.setCell (p := ⟨w.heap.size, k, none⟩) (Nat.le_refl _) (.int .i64 x))
      clear h2 hx hy HO hcell
      go_wp2
      go_roundw
      case rel => exact ⟨k + 1, by omega, by go_num, HO2, HB2⟩
      case measure => simp [intOf]; omega
    · have HO2 : Hid (Own wr w.heap.size (.slice (some ⟨w.heap.size, 0, none⟩) n n) zs) := Lib.hid (by
        have h := HO.out
        rwa [fillTo_all (by rw [HX.out]; omega)] at h)
      go_wp2
      go_ret
      exact ⟨_, rfl, HO2.out, HB.out⟩
end Go.Proofs.YtolbkdcnmkmncaaDoor

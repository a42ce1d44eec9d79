/-
  A slice of logins that came in as an argument; the laws' own szLoginS, toLoginS, eqLoginS. Conditions: none.
-/
import Derived.Test.YticlgmdmkomdbaaLoginArg
import Derived.Test.YticlgmdmkomdbaaLogins
import Derived.Test.YticlgmdmkomdbaaApart
import Derived.Test.YticlgmdmkomdbaaMarks
import Derived.Test.YticlgmdmkomdbaaTail
import Derived.Deep.Slices
namespace Go.Proofs.Yticlgmdmkomdbaa
open Go.ChangeShapes Go.WideShapes Go.ChangeAt Go.RowKit Go.Joins Go.Deep

theorem list_of {α : Type} {Q : Nat → α → Prop} : ∀ (n : Nat), (∀ i, i < n → ∃ x, Q i x) → ∃ L : List α, L.length = n ∧ ∀ i x, L[i]? = some x → Q i x
  | 0, _ => ⟨[], rfl, fun i x h => by simp at h⟩
  | n + 1, h => by
    obtain ⟨L, hl, hL⟩ := list_of n (fun i hi => h i (by omega))
    obtain ⟨x, hx⟩ := h n (by omega)
    refine ⟨L ++ [x], by simp [hl], fun i y hy => ?_⟩
    rw [List.getElem?_append] at hy
    split at hy
    · exact hL i y hy
    · next hi =>
      have hi2 : i = n := by
        have := (List.getElem?_eq_some_iff.1 hy).1
        simp at this
        omega
      subst hi2
      rw [hl, Nat.sub_self] at hy
      have : x = y := by simpa using hy
      subst this
      exact hx

/-- A slice of logins that came in and is only read, in a block below hi. -/
def CameP (w : World) (hi : Nat) (v : Value) (ls : List (ByteArray × ByteArray)) : Prop :=
  ∃ A c, v = .slice A ls.length c ∧ ls.length ≤ c ∧ c ≤ 9223372036854775807 ∧ (∀ p ∈ ls, p.1.size ≤ maxLen ∧ p.2.size ≤ maxLen) ∧
    (ls = [] ∨ ∃ b o, A = some ⟨b, o, none⟩ ∧ b < hi ∧ ∀ j p, ls[j]? = some p → w.cell? ⟨b, o + j * 2, none⟩ = some (.string p.1) ∧ w.cell? ⟨b, o + j * 2 + 1, none⟩ = some (.string p.2))
theorem CameP.below {w w' : World} {hi : Nat} {v : Value} {ls : List (ByteArray × ByteArray)} (h : CameP w hi v ls) (hb : Below hi w w') : CameP w' hi v ls := by
  obtain ⟨A, c, h1, h2, h3, h4, h5⟩ := h
  refine ⟨A, c, h1, h2, h3, h4, ?_⟩
  rcases h5 with h5 | ⟨b, o, h6, h7, h8⟩
  · exact .inl h5
  · refine .inr ⟨b, o, h6, h7, fun j p hp => ?_⟩
    obtain ⟨h9, h10⟩ := h8 j p hp
    exact ⟨(hb.cell (p := ⟨b, o + j * 2, none⟩) h7).trans h9, (hb.cell (p := ⟨b, o + j * 2 + 1, none⟩) h7).trans h10⟩

theorem logins_of {H : Type} {enc : TypeId × Value → H} {W : World} {base : Nat} {v : Value} {d : DataW H} {p : List MemPlace}
    (hval : Value.okWide Try.prog W .any base 43 v) (h : DataW.Trod enc Try.prog W 0 (fun _ => true) true 43 v d p) :
    ∃ ls, CameP W W.heap.size v ls := by
  obtain ⟨A, len, cap, rfl⟩ := okWide_slice Try.underlying43 hval
  obtain ⟨fuel, hf⟩ := h
  rcases open_slice Try.underlying43 hf with ⟨hcs, _⟩ | ⟨x, l, c, m, n, D, Pl, hcs, _, hl, hm, hmm, _, hi⟩
  · simp [Value.cells] at hcs
    obtain ⟨rfl, rfl, rfl⟩ := hcs
    exact ⟨[], none, 0, rfl, Nat.le_refl _, by omega, by simp, .inl rfl⟩
  · simp [Value.cells] at hcs
    obtain ⟨rfl, rfl, rfl⟩ := hcs
    have hml : len ≤ m := by rw [hmm]; split <;> omega
    obtain ⟨ls, hls, hL⟩ := list_of (Q := fun i (q : ByteArray × ByteArray) => q.1.size ≤ maxLen ∧ q.2.size ≤ maxLen ∧ W.cell? (x.add (i * 2)) = some (.string q.1) ∧ W.cell? ((x.add (i * 2)).add 1) = some (.string q.2)) len (fun i hil => by
      obtain ⟨cs', hc1, hc2⟩ := hi i (by omega)
      rw [Try.cellsLogin] at hc1
      obtain ⟨_, hlen, hcell⟩ := World.cells?_some hc1
      obtain ⟨y0, y1, n', _, _, h0, h1⟩ := trod_struct2 Try.underlying44 hc2
      obtain ⟨s0, e0, _, z0⟩ := DataW.trod_string Try.underlying9 h0
      obtain ⟨s1, e1, _, z1⟩ := DataW.trod_string Try.underlying9 h1
      match cs', hlen with
      | [u0, u1], _ =>
        have k1 : Try.prog.cellsOf 9 = 1 := by kernel_rfl
        simp [k1] at e0 e1
        subst e0 e1
        have q0 := hcell 0 (by omega)
        have q1 := hcell 1 (by omega)
        refine ⟨(s0, s1), z0, z1, ?_, by simpa using q1⟩
        simpa [Addr.add] using q0)
    refine ⟨ls, some x, cap, by rw [hls], by omega, by unfold maxLen at hm; omega, ?_, ?_⟩
    · intro q hq
      obtain ⟨i, hi2⟩ := List.getElem?_of_mem hq
      have h3 := hL i q hi2
      exact ⟨h3.1, h3.2.1⟩
    · rcases ls with _ | ⟨q, r⟩
      · exact .inl rfl
      · right
        obtain ⟨b, off, spot⟩ := x
        have h0 := (hL 0 q rfl).2.2.1
        have hspot : spot = none := by simpa [Addr.add] using World.cell?_spot h0
        subst hspot
        refine ⟨b, off, rfl, by simpa [Addr.add] using World.block_lt_of_cell? W _ h0, fun j q2 hq2 => ?_⟩
        have h1 := (hL j q2 hq2).2.2
        rw [addr_add, addr_add] at h1
        exact h1

theorem szLogin_any (u v : ByteArray) (left : Int) (w : World) (h0 : 0 ≤ left) (h2 : left ≤ 1048576) (hu : u.size ≤ maxLen) (hv : v.size ≤ maxLen) :
    Calls Try.prog 42 #[.agg #[.string u, .string v], .int .i64 left] w fun e w' => ∃ r : Int, e = .returned (.int .i64 r) ∧ -1 ≤ r ∧ r ≤ left ∧ Below w.heap.size w w' := by
  by_cases h : (u.size : Int) + v.size ≤ left
  · exact (szLogin_fits u v left w h h2).mono fun e w' ⟨h3, h4⟩ => ⟨_, h3, by omega, by omega, h4⟩
  · exact (szLogin_not u v left w (by omega) h2 h0 hu hv).mono fun e w' ⟨h3, h4⟩ => ⟨_, h3, by omega, by omega, h4⟩

/-- How much is left behind a look at a slice. -/
def Left (w : World) (n : Nat) (e : Ending) (w' : World) : Prop := ∃ r : Int, e = .returned (.int .i64 r) ∧ -1 ≤ r ∧ r ≤ 1048576 ∧ (0 ≤ r → n ≤ 1048576) ∧ Below w.heap.size w w'
set_option maxRecDepth 100000 in
set_option maxHeartbeats 1000000 in
theorem szLoginS_any (v : Value) (ls : List (ByteArray × ByteArray)) (hi : Nat) (w : World) (hv : CameP w hi v ls) (hh : hi ≤ w.heap.size) :
    Calls Try.prog 41 #[v, .int .i64 1048576] w fun e w' => Left w ls.length e w' := by
  obtain ⟨A, c, rfl, hc, hm, hz, hA⟩ := hv
  obtain ⟨n, hn⟩ : ∃ n, ls.length = n := ⟨_, rfl⟩
  have HN := Lib.hid hn
  rw [hn] at hc ⊢
  have HZ := Lib.hid hz
  have HA := Lib.hid hA
  clear hn hz hA
  by_cases hl : 1048576 < n
  · have hl' : (1048576 : Int) - (n : Int) < 0 := by omega
    go_enter Try.func41, Try.ntmps41
    go_wp2_with fail
    go_ret
    exact ⟨-1, rfl, by omega, by omega, by omega, Below.refl _ _⟩
  have hl' : 0 ≤ (1048576 : Int) - (n : Int) := by omega
  go_enter Try.func41, Try.ntmps41
  go_wp2_with fail
  go_loopw [1, 5] (fun l i wr => ∃ (k : Nat) (r : Int), k ≤ n ∧ i = .int .i64 k ∧ l = .int .i64 r ∧ 0 ≤ r ∧ r ≤ 1048576 ∧ Hid (Below w.heap.size w wr)) (fun _ i _ => n - (intOf i).toNat)
  case atStart => exact ⟨0, _, Nat.zero_le _, rfl, rfl, by omega, by omega, Lib.hid (Below.refl _ _)⟩
  case round =>
    obtain ⟨k, r, hk, rfl, rfl, hr0, hr1, HB⟩ := hrel
    by_cases hlt : k < n
    · have hki : (k : Int) < (n : Int) := by omega
      obtain ⟨b, o, rfl, hb, hcell⟩ := HA.out.resolve_left (fun h => by have := HN.out; rw [h] at this; simp at this; omega)
      have hkl : k < ls.length := by rw [HN.out]; exact hlt
      obtain ⟨p, hp⟩ : ∃ p, ls[k]? = some p := ⟨ls[k], List.getElem?_eq_getElem hkl⟩
      obtain ⟨c0, c1⟩ := hcell k p hp
      have d0 : wr.cell? ⟨b, o + k * 2, none⟩ = some (.string p.1) := (HB.out.cell (p := ⟨b, o + k * 2, none⟩) (show b < _ by omega)).trans c0
      have d1 : wr.cell? ⟨b, o + k * 2 + 1, none⟩ = some (.string p.2) := (HB.out.cell (p := ⟨b, o + k * 2 + 1, none⟩) (show b < _ by omega)).trans c1
      have hz1 := HZ.out p (List.mem_of_getElem? hp)
      have HZ1 := Lib.hid hz1
      clear hz1 c0 c1 hcell hp hkl
      obtain ⟨s0, s1⟩ := p
      go_wp2_with fail
      refine (szLogin_any s0 s1 r _ hr0 hr1 HZ1.out.1 HZ1.out.2).mono ?_
      rintro e w2 ⟨q, rfl, hq0, hq1, b2⟩
      have HB2 := Lib.hid (HB.out.trans (b2.mono HB.out.size))
      clear b2
      by_cases hq : q < 0
      · go_wp2_with fail
        go_ret
        exact ⟨-1, rfl, by omega, by omega, by omega, HB2.out⟩
      · have hq' : 0 ≤ q := by omega
        go_wp2_with fail
        go_roundw
        case rel => exact ⟨k + 1, q, by omega, by go_num, rfl, hq', by omega, HB2⟩
        case measure => simp [intOf]; omega
    · go_wp2_with fail
      go_ret
      exact ⟨r, rfl, by omega, by omega, by omega, HB.out⟩

theorem Try.infoLogin : (Try.prog.info? 31).map (fun i => (i.zero, i.size, i.bytes)) = some (some (.agg #[.string .empty, .string .empty]), 2, 32) := by kernel_rfl
theorem lv_blank (n : Nat) : lv (List.replicate n (ByteArray.empty, ByteArray.empty)) = List.replicate (n * 2) (.string .empty) := by
  rw [List.eq_replicate_iff]
  refine ⟨by rw [lv_length, List.length_replicate], fun b hb => ?_⟩
  unfold lv at hb
  rw [List.mem_flatMap] at hb
  obtain ⟨p, hp, hb⟩ := hb
  rw [List.mem_replicate] at hp
  rw [hp.2] at hb
  simpa using hb
theorem made_blank (n : Nat) : madeCells #[Value.string .empty, Value.string .empty] (n * 2) = (lv (List.replicate n (ByteArray.empty, ByteArray.empty))).toArray := by
  apply Array.toList_inj.1
  rw [lv_blank]
  show (madeCells #[Value.string .empty, Value.string .empty] (n * 2)).toList = List.replicate (n * 2) (.string .empty)
  rw [List.eq_replicate_iff]
  refine ⟨by rw [Array.length_toList, size_madeCells], fun b hb => ?_⟩
  unfold madeCells at hb
  rw [Array.mem_toList_iff, Array.mem_map] at hb
  obtain ⟨j, _, rfl⟩ := hb
  have h2 : j % 2 = 0 ∨ j % 2 = 1 := by omega
  show #[Value.string .empty, Value.string .empty][j % 2]! = _
  rcases h2 with h | h <;> rw [h] <;> rfl
/-- 'make([]Login, n)' -/
theorem mk_logins (n : Nat) (hn : n ≤ 1099511627776) (u : World) : (Instr.makeSlice 29 (.int .i64 (n : Int)) (.int .i64 (n : Int))).run Try.prog u = .ok (.slice (some ⟨u.heap.size, 0, none⟩) n n) (u.alloc (.cells (lv (List.replicate n (ByteArray.empty, ByteArray.empty))).toArray 31)) := by
  obtain ⟨i0, hi, hz0, hz1, hz2⟩ := info_parts Try.infoLogin
  have h := run_make (P := Try.prog) u 29 31 i0 (.agg #[.string .empty, .string .empty]) Try.underlying29 hi hz0 .i64 .i64 (n : Int) (n : Int) (by omega) (Int.le_refl _) (by rw [hz2]; omega) (by omega)
  simp only [Int.toNat_natCast, hz1] at h
  rw [← made_blank]
  exact h
theorem lv_set : ∀ (L : List (ByteArray × ByteArray)) (j : Nat) (a d : ByteArray), ((lv L).set (j * 2) (.string a)).set (j * 2 + 1) (.string d) = lv (L.set j (a, d))
  | [], j, a, d => by simp [lv]
  | q :: r, 0, a, d => rfl
  | q :: r, j + 1, a, d => by
    have e : lv (q :: r) = .string q.1 :: .string q.2 :: lv r := rfl
    have e2 : (q :: r).set (j + 1) (a, d) = q :: r.set j (a, d) := rfl
    have e3 : lv (q :: r.set j (a, d)) = .string q.1 :: .string q.2 :: lv (r.set j (a, d)) := rfl
    rw [e, e2, e3, ← lv_set r j a d, Nat.add_mul]
    rfl
def fillP (ls : List (ByteArray × ByteArray)) (k : Nat) : List (ByteArray × ByteArray) := ls.take k ++ List.replicate (ls.length - k) (ByteArray.empty, ByteArray.empty)
theorem fillP_length {ls : List (ByteArray × ByteArray)} {k : Nat} (h : k ≤ ls.length) : (fillP ls k).length = ls.length := by
  simp [fillP]
  omega
theorem fillP_step {ls : List (ByteArray × ByteArray)} {j : Nat} {p : ByteArray × ByteArray} (h : ls[j]? = some p) : (fillP ls j).set j p = fillP ls (j + 1) := by
  have hj : j < ls.length := (List.getElem?_eq_some_iff.1 h).1
  have he : ls[j] = p := (List.getElem?_eq_some_iff.1 h).2
  unfold fillP
  have hl : (ls.take j).length = j := by simp; omega
  rw [List.set_append_right j _ (by rw [hl]; exact Nat.le_refl j), hl, Nat.sub_self]
  have e : ls.length - j = (ls.length - (j + 1)) + 1 := by omega
  rw [e, List.replicate_succ, List.set_cons_zero, List.take_succ_eq_append_getElem hj, List.append_assoc, he]
  rfl
theorem Logins.of_seg {w : World} {b n : Nat} {ls : List (ByteArray × ByteArray)} {lo : Nat} (h : Seg w 31 b 0 (lv ls)) (hn : ls.length = n) (hm : n ≤ 9223372036854775807) (hlo : lo ≤ b) : Logins w lo (.slice (some ⟨b, 0, none⟩) n n) ls := by
  subst hn
  exact ⟨lv_length ls, some ⟨b, 0, none⟩, _, rfl, Nat.le_refl _, by unfold maxLen; omega, .inr ⟨b, 0, rfl, hlo, h⟩⟩

set_option maxRecDepth 100000 in
set_option maxHeartbeats 1000000 in
theorem toLoginS_any (v : Value) (ls : List (ByteArray × ByteArray)) (hi : Nat) (w : World) (hv : CameP w hi v ls) (hh : hi ≤ w.heap.size) (hl : ls.length ≤ 1099511627776) :
    Calls Try.prog 43 #[v] w fun e w' => ∃ u, e = .returned u ∧ Logins w' w.heap.size u ls ∧ Below w.heap.size w w' := by
  obtain ⟨A, c, rfl, hc, hm, _, hA⟩ := hv
  obtain ⟨n, hn⟩ : ∃ n, ls.length = n := ⟨_, rfl⟩
  have HN := Lib.hid hn
  rw [hn] at hc hl ⊢
  have HA := Lib.hid hA
  have hmk := mk_logins n hl
  clear hn hA
  go_enter Try.func43, Try.ntmps43
  go_wp2_with fail
  go_loopw [4] (fun i wr => ∃ k : Nat, k ≤ n ∧ i = .int .i64 k ∧ Hid (Seg wr 31 w.heap.size 0 (lv (fillP ls k))) ∧ Hid (Below w.heap.size w wr)) (fun i _ => n - (intOf i).toNat)
  case atStart =>
    refine ⟨0, Nat.zero_le _, rfl, Lib.hid ?_, Lib.hid ((Below.refl _ _).alloc (Nat.le_refl _) _)⟩
    have e : fillP ls 0 = List.replicate n (ByteArray.empty, ByteArray.empty) := by simp [fillP, HN.out]
    rw [e]
    exact ⟨_, heap_alloc_new w _, fun j u hu => by simpa using hu⟩
  case round =>
    obtain ⟨k, hk, rfl, HS, HB⟩ := hrel
    by_cases hlt : k < n
    · have hki : (k : Int) < (n : Int) := by omega
      obtain ⟨b, o, rfl, hb, hcell⟩ := HA.out.resolve_left (fun h => by have := HN.out; rw [h] at this; simp at this; omega)
      have hkl : k < ls.length := by rw [HN.out]; exact hlt
      obtain ⟨p, hp⟩ : ∃ p, ls[k]? = some p := ⟨ls[k], List.getElem?_eq_getElem hkl⟩
      obtain ⟨c0, c1⟩ := hcell k p hp
      have d0 : wr.cell? ⟨b, o + k * 2, none⟩ = some (.string p.1) := (HB.out.cell (p := ⟨b, o + k * 2, none⟩) (show b < _ by omega)).trans c0
      have d1 : wr.cell? ⟨b, o + k * 2 + 1, none⟩ = some (.string p.2) := (HB.out.cell (p := ⟨b, o + k * 2 + 1, none⟩) (show b < _ by omega)).trans c1
      have HST := Lib.hid (fillP_step hp)
      have hfl := fillP_length (ls := ls) (k := k) (by omega)
      have hblk := HS.out.lt
      clear c0 c1 hcell hp
      obtain ⟨s0, s1⟩ := p
      go_wp2_with fail
      refine (toLogin_any s0 s1 _).mono ?_
      rintro e w2 ⟨rfl, b2⟩
      have S2 := HS.out.below b2 hblk
      have HB2 := HB.out.trans (b2.mono HB.out.size)
      obtain ⟨q, hq⟩ : ∃ q, (fillP ls k)[k]? = some q := ⟨(fillP ls k)[k]'(by rw [hfl]; exact hkl), List.getElem?_eq_getElem _⟩
      obtain ⟨g0, g1⟩ := lv_get0 _ k q hq
      have e0 := S2.cell g0
      have e1 := S2.cell g1
      rw [Nat.zero_add] at e0 e1
      have f0 := S2.frozen (k * 2)
      have f1 := S2.frozen (k * 2 + 1)
      have hll : (lv (fillP ls k)).length = ls.length * 2 := by rw [lv_length, hfl]
      have S3 := (S2.set_ (j := k * 2) (by rw [hll]; omega) (.string s0)).set_ (j := k * 2 + 1) (by rw [List.length_set, hll]; omega) (.string s1)
      rw [lv_set, HST.out, Nat.zero_add, Nat.zero_add] at S3
      have HS3 := Lib.hid S3
      have HB3 := Lib.hid ((HB2.setCell (p := ⟨w.heap.size, k * 2, none⟩) (Nat.le_refl _) (.string s0)).setCell (p := ⟨w.heap.size, k * 2 + 1, none⟩) (Nat.le_refl _) (.string s1))
      clear b2 S2 HB2 S3 hq g0 g1 hll hfl hkl hblk HST d0 d1 HS HB
      go_wp2_with fail
      go_roundw
      case rel => exact ⟨k + 1, by omega, by go_num, HS3, HB3⟩
      case measure => simp [intOf]; omega
    · have hS2 : Seg wr 31 w.heap.size 0 (lv ls) := by
        have h := HS.out
        have e : fillP ls k = ls := by
          unfold fillP
          rw [List.take_of_length_le (by rw [HN.out]; omega), HN.out, Nat.sub_eq_zero_of_le (by omega)]
          simp
        rwa [e] at h
      have HL := Lib.hid (Logins.of_seg (lo := w.heap.size) hS2 HN.out (by omega) (Nat.le_refl _))
      clear hS2 HS
      go_wp2_with fail
      go_ret
      exact ⟨_, rfl, HL.out, HB.out⟩

set_option maxRecDepth 100000 in
set_option maxHeartbeats 1000000 in
theorem eqLoginS_same (v u : Value) (ls : List (ByteArray × ByteArray)) (w : World) (hv : Logins w 0 v ls) (hu : Logins w 0 u ls) :
    Calls Try.prog 45 #[v, u] w fun e w' => e = .returned (.bool true) ∧ Below w.heap.size w w' := by
  obtain ⟨A, c, rfl, hc, hm, hA⟩ := hv.open_
  obtain ⟨A2, c2, rfl, hc2, hm2, hA2⟩ := hu.open_
  obtain ⟨n, hn⟩ : ∃ n, ls.length = n := ⟨_, rfl⟩
  have HN := Lib.hid hn
  rw [hn] at hc hc2 ⊢
  have HA := Lib.hid hA
  have HA2 := Lib.hid hA2
  clear hv hu hn hA hA2
  go_enter Try.func45, Try.ntmps45
  go_wp2_with fail
  go_loopw [5] (fun i wr => ∃ k : Nat, k ≤ n ∧ i = .int .i64 k ∧ Hid (Below w.heap.size w wr)) (fun i _ => n - (intOf i).toNat)
  case atStart => exact ⟨0, Nat.zero_le _, rfl, Lib.hid (Below.refl _ _)⟩
  case round =>
    obtain ⟨k, hk, rfl, HB⟩ := hrel
    by_cases hlt : k < n
    · have hki : (k : Int) < (n : Int) := by omega
      have hki0 : (0 : Int) ≤ (k : Int) := by omega
      obtain ⟨b, o, rfl, _, hb, hs⟩ := HA.out.resolve_left (fun h => by have := HN.out; rw [h] at this; simp at this; omega)
      obtain ⟨b', o', rfl, _, hb', hs'⟩ := HA2.out.resolve_left (fun h => by have := HN.out; rw [h] at this; simp at this; omega)
      have hkl : k < ls.length := by rw [HN.out]; exact hlt
      obtain ⟨p, hp⟩ : ∃ p, ls[k]? = some p := ⟨ls[k], List.getElem?_eq_getElem hkl⟩
      obtain ⟨g0, g1⟩ := lv_get0 ls k p hp
      have c0 := (hs.below HB.out hs.lt).cell g0
      have c1 := (hs.below HB.out hs.lt).cell g1
      have d0 := (hs'.below HB.out hs'.lt).cell g0
      have d1 := (hs'.below HB.out hs'.lt).cell g1
      obtain ⟨s0, s1⟩ := p
      simp only at c0 c1 d0 d1
      rw [← Nat.add_assoc] at c1 d1
      have hz := HB.out.size
      clear hs hs' g0 g1 hp hkl HA HA2
      go_wp2_with fail
      refine region_tail 8 (by kernel_rfl) (by kernel_rfl) ?_
      simp only [List.take_succ_cons, List.take_zero, List.drop_succ_cons, List.drop_zero]
      obtain ⟨W2, hW2⟩ : ∃ W2, wr.drew = W2 := ⟨_, rfl⟩
      have a0 : W2.cell? ⟨b, o + k * 2, none⟩ = some (.string s0) := by rw [← hW2]; exact c0
      have a1 : W2.cell? ⟨b, o + k * 2 + 1, none⟩ = some (.string s1) := by rw [← hW2]; exact c1
      have q0 : W2.cell? ⟨b', o' + k * 2, none⟩ = some (.string s0) := by rw [← hW2]; exact d0
      have q1 : W2.cell? ⟨b', o' + k * 2 + 1, none⟩ = some (.string s1) := by rw [← hW2]; exact d1
      have HB2 : Hid (Below w.heap.size w W2) := Lib.hid (by rw [← hW2]; exact HB.out.drew)
      rw [hW2]
      clear hW2 c0 c1 d0 d1 HB
      repeat still_step
      refine wpStill_nil ?_
      go_wp2_with fail
      refine (eqLogin_same s0 s1 _).mono ?_
      rintro e w3 ⟨rfl, b3⟩
      have HB3 := Lib.hid (HB2.out.trans (b3.mono HB2.out.size))
      clear b3
      go_wp2_with fail
      go_roundw
      case rel => exact ⟨k + 1, by omega, by go_num, HB3⟩
      case measure => simp [intOf]; omega
    · go_wp2_with fail
      go_ret
      exact ⟨rfl, HB.out⟩
end Go.Proofs.Yticlgmdmkomdbaa

/-
  What asks for a tunnel, read back: ConnectFrom of the reference, and the drawn text. Conditions: the text is shorter than 2^32 - 15.
-/
import Derived.Test.YtjnnmihbkieblaaGreatDoorAdFromS
import Derived.Test.YtjnnmihbkieblaaGreatDoorConFrom
import Derived.Test.YtjnnmihbkieblaaGreatDoorText92
import Derived.Test.YtjnnmihbkieblaaGreatDoorCtx
namespace Go.Proofs.YtjnnmihbkieblaaGreatDoor
open Go.RowKit Go.Sort

theorem byte_at {s : ByteArray} {j : Nat} (h : j < s.size) : s.data.toList[j]? = some s[j] := by
  have hl : j < s.data.toList.length := by simpa using h
  rw [List.getElem?_eq_getElem hl]
  simp
  rfl
theorem conB_len : conB.data.toList.length = 8 := rfl
set_option maxRecDepth 100000 in
theorem Word_yes (s a b : ByteArray) (w : World) (hs : s.data.toList = conB.data.toList ++ (a.data.toList ++ 32 :: b.data.toList)) (ha : (32 : UInt8) ∉ a.data.toList) (hz : s.size ≤ 1000000000000) :
    Calls Tryz.prog 30 #[.string s, .int .i64 8] w fun e w' => e = .returned (.string a) ∧ w' = w := by
  have hal : a.data.toList.length = a.size := by
    show a.data.toList.length = a.data.size
    simp
  have hsl : s.data.toList.length = s.size := by
    show s.data.toList.length = s.data.size
    simp
  have hlen := congrArg List.length hs
  simp only [List.length_append, List.length_cons, conB_len] at hlen
  obtain ⟨m, hm⟩ : ∃ m, 8 + a.size = m := ⟨_, rfl⟩
  have H1 : Hid (∀ j (hj : j < s.size), 8 ≤ j → j < m → ((s[j].toNat : Int) == 32) = false) := Lib.hid (fun j hj h8 hjm => by
    have h := byte_at hj
    rw [hs, List.getElem?_append_right (by rw [conB_len]; exact h8), List.getElem?_append_left (by rw [conB_len]; omega)] at h
    have hmem := List.mem_of_getElem? h
    rw [beq_eq_false_iff_ne]
    intro e
    apply ha
    have : s[j] = 32 := UInt8.toNat_inj.1 (by show s[j].toNat = 32; omega)
    rw [← this]
    exact hmem)
  have hms : m < s.size := by omega
  have H2 : Hid (((s[m].toNat : Int) == 32) = true) := Lib.hid (by
    have h := byte_at hms
    rw [hs, List.getElem?_append_right (by rw [conB_len]; omega), List.getElem?_append_right (by rw [conB_len]; omega)] at h
    have e0 : m - conB.data.toList.length - a.data.toList.length = 0 := by rw [conB_len]; omega
    rw [e0] at h
    have : s[m] = 32 := by simpa using h.symm
    rw [this]
    rfl)
  have hX : s.extract 8 m = a := by
    apply ext_of
    rw [ByteArray.data_extract, Array.toList_extract, List.extract_eq_take_drop, hs]
    have e1 : conB.data.toList.length = 8 := conB_len
    rw [List.drop_append_of_le_length (by omega), List.drop_of_length_le (by omega), List.nil_append, show m - 8 = a.data.toList.length by omega]
    simp
  obtain ⟨z, hzz⟩ : ∃ z, s.size = z := ⟨_, rfl⟩
  have h8m : 8 ≤ m := by omega
  have hmz : m < z := by omega
  have hzi : (z : Int) ≤ 1000000000000 := by omega
  have hm1 : (m : Int) ≤ (z : Int) := by omega
  have hm2 : (8 : Int) ≤ (m : Int) := by omega
  clear hs ha hal hsl hlen hm hz
  go_enter Tryz.func30, Tryz.ntmps30
  go_wp2_with fail
  go_loop [5] (fun i => ∃ k : Nat, 8 ≤ k ∧ k ≤ m ∧ i = .int .i64 k) (fun i => m - (intOf i).toNat)
  case atStart => exact ⟨8, Nat.le_refl _, h8m, rfl⟩
  case round =>
    obtain ⟨k, h8, hk, rfl⟩ := hrel
    by_cases hlt : k < m
    · have hi : (k : Int) < (z : Int) := by omega
      have hkz : k < s.size := by omega
      have he := H1.out k hkz h8 hlt
      go_wp2_with fail
      go_round
      case rel => exact ⟨k + 1, by omega, by omega, by go_num⟩
      case measure => simp [intOf]; omega
    · have hkm : k = m := by omega
      subst hkm
      have hi : (k : Int) < (z : Int) := by omega
      have he := H2.out
      go_wp2_with fail
      go_ret
      exact ⟨rfl, rfl⟩
set_option maxRecDepth 100000 in
theorem Word_no (s : ByteArray) (r : List UInt8) (w : World) (hs : s.data.toList = conB.data.toList ++ r) (ha : (32 : UInt8) ∉ r) (hz : s.size ≤ 1000000000000) :
    Calls Tryz.prog 30 #[.string s, .int .i64 8] w fun e w' => e = .returned (.string ⟨#[]⟩) ∧ w' = w := by
  have hsl : s.data.toList.length = s.size := by
    show s.data.toList.length = s.data.size
    simp
  have hlen := congrArg List.length hs
  simp only [List.length_append, conB_len] at hlen
  have H1 : Hid (∀ j (hj : j < s.size), 8 ≤ j → ((s[j].toNat : Int) == 32) = false) := Lib.hid (fun j hj h8 => by
    have h := byte_at hj
    rw [hs, List.getElem?_append_right (by rw [conB_len]; exact h8)] at h
    have hmem := List.mem_of_getElem? h
    rw [beq_eq_false_iff_ne]
    intro e
    apply ha
    have : s[j] = 32 := UInt8.toNat_inj.1 (by show s[j].toNat = 32; omega)
    rw [← this]
    exact hmem)
  obtain ⟨z, hzz⟩ : ∃ z, s.size = z := ⟨_, rfl⟩
  have h8z : 8 ≤ z := by omega
  have hzi : (z : Int) ≤ 1000000000000 := by omega
  clear hs ha hsl hlen hz
  go_enter Tryz.func30, Tryz.ntmps30
  go_wp2_with fail
  go_loop [5] (fun i => ∃ k : Nat, 8 ≤ k ∧ k ≤ z ∧ i = .int .i64 k) (fun i => z - (intOf i).toNat)
  case atStart => exact ⟨8, Nat.le_refl _, h8z, rfl⟩
  case round =>
    obtain ⟨k, h8, hk, rfl⟩ := hrel
    by_cases hlt : k < z
    · have hi : (k : Int) < (z : Int) := by omega
      have hkz : k < s.size := by omega
      have he := H1.out k hkz h8
      go_wp2_with fail
      go_round
      case rel => exact ⟨k + 1, by omega, by omega, by go_num⟩
      case measure => simp [intOf]; omega
    · have hi : ¬ (k : Int) < (z : Int) := by omega
      go_wp2_with fail
      go_ret
      exact ⟨rfl, rfl⟩
/-- What l14Word finds. -/
theorem word_found (s : ByteArray) (hs : s.size ≤ 1000000000000) (hb : beg s conB = true) : ∃ t : ByteArray, (∀ W : World, Calls Tryz.prog 30 #[.string s, .int .i64 8] W fun e w' => e = .returned (.string t) ∧ w' = W) ∧ t.size ≤ s.size ∧ Holds s t := by
  obtain ⟨h1, h2⟩ := conB_rest hb
  rcases cut_cases (behind s conB).data.toList 32 with hno | ⟨a, b, hab, ha⟩
  · exact ⟨_, fun W => Word_no s _ W h1 hno hs, by show 0 ≤ s.size; omega, holds_none (noCon_blank h1 hno) _⟩
  · have h3 := size_part hab
    rw [hab] at h1
    exact ⟨a, fun W => Word_yes s a b W h1 ha hs, by omega, fun k qs nm p h => con_text h1 ha h⟩

set_option maxRecDepth 100000 in
set_option maxHeartbeats 8000000 in
theorem spec_ConnectFrom_any (s : ByteArray) (w : World) (hs : s.size < 4294967281) : Calls Tryz.prog 12 #[.string s] w fun e w' => ConGave s w e w' := by
  have B0 : Hid (Below w.heap.size w (w.alloc (.cells #[.int .i64 0, .slice none 0 0, .string .empty, .int .i64 0] 25))) := Lib.hid ((Below.refl _ _).alloc (Nat.le_refl _) _)
  have K0 := Lib.hid (Blk.new w 25 #[.int .i64 0, .slice none 0 0, .string .empty, .int .i64 0])
  have QB := Lib.hid (fun W => l14Begins_any s conB W)
  cases hb : beg s conB
  · have NC := Lib.hid (noCon_beg hb)
    rw [hb] at QB
    clear hb
    have f0 := K0.out.free 0
    go_enter Tryz.func12, Tryz.ntmps12
    go_wp2_with (go_at_call 28; refine (QB.out _).mono ?_; rintro e w5 ⟨rfl, rfl⟩)
    refine bodyPost_ret (v := .tuple #[.agg #[.int .i64 0, .slice none 0 0, .string .empty, .int .i64 0], .int .i64 0, .bool false]) (by simp [results, Tryz.results12, go_sem]; rfl) rfl ?_
    exact .inr ⟨rfl, NC.out, by first | exact below_s4 B0.out (Nat.le_refl _) _ _ _ _ | exact (Below.refl _ _).alloc (Nat.le_refl _) _⟩
  obtain ⟨t, q1, hts, hh⟩ := word_found s (by omega) hb
  have Q1 := Lib.hid q1
  have HH := Lib.hid hh
  have hts2 : t.size < 4294967281 := by omega
  rw [hb] at QB
  clear q1 hh hts hb
  go_enter Tryz.func12, Tryz.ntmps12
  go_wp2_with (go_at_call 28; refine (QB.out _).mono ?_; rintro e w5 ⟨rfl, rfl⟩)
  refine (Q1.out _).mono ?_
  rintro e w2 ⟨rfl, rfl⟩
  go_wp2_with fail
  refine (spec_AddressFrom_any t _ hts2).mono ?_
  rintro e w3 (⟨k, q, qs, nm, p, rfl, ha, o3, b3⟩ | ⟨rfl, hno, b3⟩)
  · obtain ⟨A4, c4, rfl, _, _, _⟩ := o3.form
    have HA := Lib.hid ha
    have z2 := b3.size
    simp at z2
    obtain ⟨V, hV⟩ : ∃ V, w3.alloc (.cells #[.int .i64 k, .slice A4 qs.length c4, .string nm, .int .i64 p] 25) = V := ⟨_, rfl⟩
    have KV : Hid (Blk V w3.heap.size 25 #[.int .i64 k, .slice A4 qs.length c4, .string nm, .int .i64 p]) := Lib.hid (by rw [← hV]; exact Blk.new _ _ _)
    have JV : Hid (Blk V w.heap.size 25 #[.int .i64 0, .slice none 0 0, .string .empty, .int .i64 0]) := Lib.hid (by rw [← hV]; exact (K0.out.kept b3).alloc _)
    have BV : Hid (Below w.heap.size w V) := Lib.hid (by rw [← hV]; exact (B0.out.trans (b3.mono B0.out.size)).alloc (B0.out.trans (b3.mono B0.out.size)).size _)
    have OV : Hid (Own V (w.heap.size + 1) (.slice A4 qs.length c4) qs) := Lib.hid (by rw [← hV]; exact (o3.more (by simp)).alloc _)
    have k0 : V.cell? ⟨w3.heap.size, 0, none⟩ = some (.int .i64 k) := KV.out.cell 0
    have k1 : V.cell? ⟨w3.heap.size, 1, none⟩ = some (.slice A4 qs.length c4) := KV.out.cell 1
    have k2 : V.cell? ⟨w3.heap.size, 2, none⟩ = some (.string nm) := KV.out.cell 2
    have k3 : V.cell? ⟨w3.heap.size, 3, none⟩ = some (.int .i64 p) := KV.out.cell 3
    have hnz := con_fits ha
    obtain ⟨C, hC⟩ : ∃ C, conT (adT k qs nm p) = C := ⟨_, rfl⟩
    have EC : Hid (conX k qs nm p = C) := Lib.hid (by rw [← hC]; exact conX_ok ha.1)
    have ET := Lib.hid hC
    have QC := Lib.hid (fun W => l14Begins_any s C W)
    have qt := fun W h => spec_ConnectText_any k (.slice A4 qs.length c4) nm p qs W h hnz
    rw [EC.out] at qt
    have QT := Lib.hid qt
    clear qt
    clear ha o3 b3 B0 K0 hC
    go_wp2_with fail
    clear hV
    refine (spec_ConnectText_any k _ nm p qs _ OV.out.ints.zero hnz).mono ?_
    rintro e w5 ⟨rfl, b5⟩
    rw [EC.out]
    clear k0 k1 k2 k3
    have K5 := Lib.hid (KV.out.kept b5)
    have J5 := Lib.hid (JV.out.kept b5)
    have O5 := Lib.hid (OV.out.below b5)
    have B5 := Lib.hid (BV.out.trans (b5.mono BV.out.size))
    have hne : w3.heap.size ≠ w.heap.size := by omega
    clear b5 KV JV OV BV
    cases hb : beg s C
    · have NC := Lib.hid (noCon_beg2 HH.out HA.out (by rw [ET.out]; exact hb))
      rw [hb] at QC
      clear hb
      have j0 : w5.cell? ⟨w.heap.size, 0, none⟩ = some (.int .i64 0) := J5.out.cell 0
      have j1 : w5.cell? ⟨w.heap.size, 1, none⟩ = some (.slice none 0 0) := J5.out.cell 1
      have j2 : w5.cell? ⟨w.heap.size, 2, none⟩ = some (.string .empty) := J5.out.cell 2
      have j3 : w5.cell? ⟨w.heap.size, 3, none⟩ = some (.int .i64 0) := J5.out.cell 3
      have f0 := J5.out.free 0
      have f1 := J5.out.free 1
      have f2 := J5.out.free 2
      have f3 := J5.out.free 3
      go_wp2_with (go_at_call 28; refine (QC.out _).mono ?_; rintro e w5 ⟨rfl, rfl⟩)
      refine bodyPost_ret (v := .tuple #[.agg #[.int .i64 0, .slice none 0 0, .string .empty, .int .i64 0], .int .i64 0, .bool false]) (by simp [results, Tryz.results12, go_sem, j0, j1, j2, j3]; rfl) rfl ?_
      exact .inr ⟨rfl, NC.out, below_s4 B5.out (Nat.le_refl _) _ _ _ _⟩
    · have IC : Hid (IsCon s k qs nm p) := Lib.hid ⟨HA.out.1, by rw [ET.out]; exact hb⟩
      rw [hb] at QC
      clear hb
      have KS := Lib.hid (K5.out.s4far hne (.int .i64 k) (.slice A4 qs.length c4) (.string nm) (.int .i64 p))
      have JS := Lib.hid (J5.out.s4 (.int .i64 k) (.slice A4 qs.length c4) (.string nm) (.int .i64 p))
      have OS : Hid (Ints (((((w5.setCell ⟨w.heap.size, 0, none⟩ (.int .i64 k)).setCell ⟨w.heap.size, 1, none⟩ (.slice A4 qs.length c4)).setCell ⟨w.heap.size, 2, none⟩ (.string nm)).setCell ⟨w.heap.size, 3, none⟩ (.int .i64 p)).drew) 0 (.slice A4 qs.length c4) qs) := Lib.hid ((ctx_own O5.out (Nat.lt_succ_self _)).ints.zero)
      have OO := Lib.hid (ctx_own (x := .int .i64 k) (y := .slice A4 qs.length c4) (z := .string nm) (u := .int .i64 p) O5.out (Nat.lt_succ_self _))
      have BS := Lib.hid (below_s4 (g := w.heap.size) B5.out (Nat.le_refl _) (.int .i64 k) (.slice A4 qs.length c4) (.string nm) (.int .i64 p))
      have OD : Hid (Ints w5.drew 0 (.slice A4 qs.length c4) qs) := Lib.hid O5.out.ints.zero
      have KD : Hid (Blk w5.drew w3.heap.size 25 #[.int .i64 k, .slice A4 qs.length c4, .string nm, .int .i64 p]) := Lib.hid K5.out
      have JD : Hid (Blk w5.drew w.heap.size 25 #[.int .i64 0, .slice none 0 0, .string .empty, .int .i64 0]) := Lib.hid J5.out
      have OW : Hid (Own w5.drew (w.heap.size + 1) (.slice A4 qs.length c4) qs) := Lib.hid O5.out
      have BW : Hid (Below w.heap.size w w5.drew) := Lib.hid B5.out.drew
      have KE : Hid (Blk (((((w5.setCell ⟨w.heap.size, 0, none⟩ (.int .i64 k)).setCell ⟨w.heap.size, 1, none⟩ (.slice A4 qs.length c4)).setCell ⟨w.heap.size, 2, none⟩ (.string nm)).setCell ⟨w.heap.size, 3, none⟩ (.int .i64 p)).drew) w3.heap.size 25 #[.int .i64 k, .slice A4 qs.length c4, .string nm, .int .i64 p]) := Lib.hid KS.out
      have JE : Hid (Blk (((((w5.setCell ⟨w.heap.size, 0, none⟩ (.int .i64 k)).setCell ⟨w.heap.size, 1, none⟩ (.slice A4 qs.length c4)).setCell ⟨w.heap.size, 2, none⟩ (.string nm)).setCell ⟨w.heap.size, 3, none⟩ (.int .i64 p)).drew) w.heap.size 25 #[.int .i64 k, .slice A4 qs.length c4, .string nm, .int .i64 p]) := Lib.hid JS.out
      have OE : Hid (Own (((((w5.setCell ⟨w.heap.size, 0, none⟩ (.int .i64 k)).setCell ⟨w.heap.size, 1, none⟩ (.slice A4 qs.length c4)).setCell ⟨w.heap.size, 2, none⟩ (.string nm)).setCell ⟨w.heap.size, 3, none⟩ (.int .i64 p)).drew) (w.heap.size + 1) (.slice A4 qs.length c4) qs) := Lib.hid OO.out
      have BE : Hid (Below w.heap.size w (((((w5.setCell ⟨w.heap.size, 0, none⟩ (.int .i64 k)).setCell ⟨w.heap.size, 1, none⟩ (.slice A4 qs.length c4)).setCell ⟨w.heap.size, 2, none⟩ (.string nm)).setCell ⟨w.heap.size, 3, none⟩ (.int .i64 p)).drew)) := Lib.hid BS.out.drew
      have SD : Hid ((w5.drew).cell? ⟨w3.heap.size, 0, none⟩ = some (.int .i64 k) ∧ (w5.drew).cell? ⟨w3.heap.size, 1, none⟩ = some (.slice A4 qs.length c4) ∧ (w5.drew).cell? ⟨w3.heap.size, 2, none⟩ = some (.string nm) ∧ (w5.drew).cell? ⟨w3.heap.size, 3, none⟩ = some (.int .i64 p) ∧ Below w.heap.size w (w5.drew)) := Lib.hid ⟨K5.out.cell 0, K5.out.cell 1, K5.out.cell 2, K5.out.cell 3, B5.out.drew⟩
      have SS : Hid ((((((w5.setCell ⟨w.heap.size, 0, none⟩ (.int .i64 k)).setCell ⟨w.heap.size, 1, none⟩ (.slice A4 qs.length c4)).setCell ⟨w.heap.size, 2, none⟩ (.string nm)).setCell ⟨w.heap.size, 3, none⟩ (.int .i64 p)).drew).cell? ⟨w3.heap.size, 0, none⟩ = some (.int .i64 k) ∧ (((((w5.setCell ⟨w.heap.size, 0, none⟩ (.int .i64 k)).setCell ⟨w.heap.size, 1, none⟩ (.slice A4 qs.length c4)).setCell ⟨w.heap.size, 2, none⟩ (.string nm)).setCell ⟨w.heap.size, 3, none⟩ (.int .i64 p)).drew).cell? ⟨w3.heap.size, 1, none⟩ = some (.slice A4 qs.length c4) ∧ (((((w5.setCell ⟨w.heap.size, 0, none⟩ (.int .i64 k)).setCell ⟨w.heap.size, 1, none⟩ (.slice A4 qs.length c4)).setCell ⟨w.heap.size, 2, none⟩ (.string nm)).setCell ⟨w.heap.size, 3, none⟩ (.int .i64 p)).drew).cell? ⟨w3.heap.size, 2, none⟩ = some (.string nm) ∧ (((((w5.setCell ⟨w.heap.size, 0, none⟩ (.int .i64 k)).setCell ⟨w.heap.size, 1, none⟩ (.slice A4 qs.length c4)).setCell ⟨w.heap.size, 2, none⟩ (.string nm)).setCell ⟨w.heap.size, 3, none⟩ (.int .i64 p)).drew).cell? ⟨w3.heap.size, 3, none⟩ = some (.int .i64 p) ∧ Below w.heap.size w (((((w5.setCell ⟨w.heap.size, 0, none⟩ (.int .i64 k)).setCell ⟨w.heap.size, 1, none⟩ (.slice A4 qs.length c4)).setCell ⟨w.heap.size, 2, none⟩ (.string nm)).setCell ⟨w.heap.size, 3, none⟩ (.int .i64 p)).drew)) := Lib.hid ⟨KS.out.cell 0, KS.out.cell 1, KS.out.cell 2, KS.out.cell 3, BS.out.drew⟩
      have j0 : w5.cell? ⟨w.heap.size, 0, none⟩ = some (.int .i64 0) := J5.out.cell 0
      have j1 : w5.cell? ⟨w.heap.size, 1, none⟩ = some (.slice none 0 0) := J5.out.cell 1
      have j2 : w5.cell? ⟨w.heap.size, 2, none⟩ = some (.string .empty) := J5.out.cell 2
      have j3 : w5.cell? ⟨w.heap.size, 3, none⟩ = some (.int .i64 0) := J5.out.cell 3
      have f0 := J5.out.free 0
      have f1 := J5.out.free 1
      have f2 := J5.out.free 2
      have f3 := J5.out.free 3
      have k0 : w5.cell? ⟨w3.heap.size, 0, none⟩ = some (.int .i64 k) := K5.out.cell 0
      have k1 : w5.cell? ⟨w3.heap.size, 1, none⟩ = some (.slice A4 qs.length c4) := K5.out.cell 1
      have k2 : w5.cell? ⟨w3.heap.size, 2, none⟩ = some (.string nm) := K5.out.cell 2
      have k3 : w5.cell? ⟨w3.heap.size, 3, none⟩ = some (.int .i64 p) := K5.out.cell 3
      go_wp2_with (go_at_call 28; refine (QC.out _).mono ?_; rintro e w5 ⟨rfl, rfl⟩)
      go_region_held3 (fun W => (W).cell? ⟨w3.heap.size, 0, none⟩ = some (.int .i64 k) ∧ (W).cell? ⟨w3.heap.size, 1, none⟩ = some (.slice A4 qs.length c4) ∧ (W).cell? ⟨w3.heap.size, 2, none⟩ = some (.string nm) ∧ (W).cell? ⟨w3.heap.size, 3, none⟩ = some (.int .i64 p) ∧ Below w.heap.size w (W))
        (first | with_reducible exact S7S.out | with_reducible exact S7.out | with_reducible exact SS.out | with_reducible exact SD.out)
        (first
          | (go_at_call 9; refine (QT.out w5.drew OD.out).mono ?_; rintro e w7 ⟨rfl, b7⟩; have K7 := Lib.hid (KD.out.kept b7); have J7 := Lib.hid (JD.out.kept b7); have O7 := Lib.hid (OW.out.below b7); have B7 := Lib.hid (BW.out.trans (b7.mono BW.out.size)); have S7 : Hid ((w7).cell? ⟨w3.heap.size, 0, none⟩ = some (.int .i64 k) ∧ (w7).cell? ⟨w3.heap.size, 1, none⟩ = some (.slice A4 qs.length c4) ∧ (w7).cell? ⟨w3.heap.size, 2, none⟩ = some (.string nm) ∧ (w7).cell? ⟨w3.heap.size, 3, none⟩ = some (.int .i64 p) ∧ Below w.heap.size w (w7)) := Lib.hid ⟨K7.out.cell 0, K7.out.cell 1, K7.out.cell 2, K7.out.cell 3, B7.out⟩; have KT := Lib.hid (K7.out.s4far hne (.int .i64 k) (.slice A4 qs.length c4) (.string nm) (.int .i64 p)); have BT := Lib.hid (below_s4 (g := w.heap.size) B7.out (Nat.le_refl _) (.int .i64 k) (.slice A4 qs.length c4) (.string nm) (.int .i64 p)); have S7S : Hid (((((w7.setCell ⟨w.heap.size, 0, none⟩ (.int .i64 k)).setCell ⟨w.heap.size, 1, none⟩ (.slice A4 qs.length c4)).setCell ⟨w.heap.size, 2, none⟩ (.string nm)).setCell ⟨w.heap.size, 3, none⟩ (.int .i64 p)).cell? ⟨w3.heap.size, 0, none⟩ = some (.int .i64 k) ∧ ((((w7.setCell ⟨w.heap.size, 0, none⟩ (.int .i64 k)).setCell ⟨w.heap.size, 1, none⟩ (.slice A4 qs.length c4)).setCell ⟨w.heap.size, 2, none⟩ (.string nm)).setCell ⟨w.heap.size, 3, none⟩ (.int .i64 p)).cell? ⟨w3.heap.size, 1, none⟩ = some (.slice A4 qs.length c4) ∧ ((((w7.setCell ⟨w.heap.size, 0, none⟩ (.int .i64 k)).setCell ⟨w.heap.size, 1, none⟩ (.slice A4 qs.length c4)).setCell ⟨w.heap.size, 2, none⟩ (.string nm)).setCell ⟨w.heap.size, 3, none⟩ (.int .i64 p)).cell? ⟨w3.heap.size, 2, none⟩ = some (.string nm) ∧ ((((w7.setCell ⟨w.heap.size, 0, none⟩ (.int .i64 k)).setCell ⟨w.heap.size, 1, none⟩ (.slice A4 qs.length c4)).setCell ⟨w.heap.size, 2, none⟩ (.string nm)).setCell ⟨w.heap.size, 3, none⟩ (.int .i64 p)).cell? ⟨w3.heap.size, 3, none⟩ = some (.int .i64 p) ∧ Below w.heap.size w ((((w7.setCell ⟨w.heap.size, 0, none⟩ (.int .i64 k)).setCell ⟨w.heap.size, 1, none⟩ (.slice A4 qs.length c4)).setCell ⟨w.heap.size, 2, none⟩ (.string nm)).setCell ⟨w.heap.size, 3, none⟩ (.int .i64 p))) := Lib.hid ⟨KT.out.cell 0, KT.out.cell 1, KT.out.cell 2, KT.out.cell 3, BT.out⟩; have m0 : w7.cell? ⟨w.heap.size, 0, none⟩ = some (.int .i64 0) := J7.out.cell 0; have m1 : w7.cell? ⟨w.heap.size, 1, none⟩ = some (.slice none 0 0) := J7.out.cell 1; have m2 : w7.cell? ⟨w.heap.size, 2, none⟩ = some (.string .empty) := J7.out.cell 2; have m3 : w7.cell? ⟨w.heap.size, 3, none⟩ = some (.int .i64 0) := J7.out.cell 3; have h0 := J7.out.free 0; have h1 := J7.out.free 1; have h2 := J7.out.free 2; have h3 := J7.out.free 3; clear b7)
          | (go_at_call 9; refine (QT.out (((((w5.setCell ⟨w.heap.size, 0, none⟩ (.int .i64 k)).setCell ⟨w.heap.size, 1, none⟩ (.slice A4 qs.length c4)).setCell ⟨w.heap.size, 2, none⟩ (.string nm)).setCell ⟨w.heap.size, 3, none⟩ (.int .i64 p)).drew) OS.out).mono ?_; rintro e w7 ⟨rfl, b7⟩; have K7 := Lib.hid (KE.out.kept b7); have L7 := Lib.hid (JE.out.kept b7); have O7 := Lib.hid (OE.out.below b7); have B7 := Lib.hid (BE.out.trans (b7.mono BE.out.size)); have S7 : Hid ((w7).cell? ⟨w3.heap.size, 0, none⟩ = some (.int .i64 k) ∧ (w7).cell? ⟨w3.heap.size, 1, none⟩ = some (.slice A4 qs.length c4) ∧ (w7).cell? ⟨w3.heap.size, 2, none⟩ = some (.string nm) ∧ (w7).cell? ⟨w3.heap.size, 3, none⟩ = some (.int .i64 p) ∧ Below w.heap.size w (w7)) := Lib.hid ⟨K7.out.cell 0, K7.out.cell 1, K7.out.cell 2, K7.out.cell 3, B7.out⟩; have m0 : w7.cell? ⟨w.heap.size, 0, none⟩ = some (.int .i64 k) := L7.out.cell 0; have m1 : w7.cell? ⟨w.heap.size, 1, none⟩ = some (.slice A4 qs.length c4) := L7.out.cell 1; have m2 : w7.cell? ⟨w.heap.size, 2, none⟩ = some (.string nm) := L7.out.cell 2; have m3 : w7.cell? ⟨w.heap.size, 3, none⟩ = some (.int .i64 p) := L7.out.cell 3; clear b7)
          | fail)
      all_goals
        rename_i hS
        clear hS
        go_wp2_with fail
        refine bodyPost_ret (v := .tuple #[.agg #[.int .i64 k, .slice A4 qs.length c4, .string nm, .int .i64 p], .int .i64 (C.size : Nat), .bool true]) (by simp [results, Tryz.results12, go_sem, m0, m1, m2, m3]) rfl ?_
        first
          | (have HT7 := S7S.out; exact .inl ⟨k, _, qs, nm, p, by rw [ET.out], IC.out, (ctx_own O7.out (Nat.lt_succ_self _)).more (Nat.le_succ _), BT.out⟩)
          | exact .inl ⟨k, _, qs, nm, p, by rw [ET.out], IC.out, O7.out.more (Nat.le_succ _), B7.out⟩
  · have NC := Lib.hid (noCon_ad HH.out hno)
    have J5 : Hid (Blk (w3.alloc (.cells #[.int .i64 0, .slice none 0 0, .string .empty, .int .i64 0] 25)) w.heap.size 25 #[.int .i64 0, .slice none 0 0, .string .empty, .int .i64 0]) := Lib.hid ((K0.out.kept b3).alloc _)
    have B5 : Hid (Below w.heap.size w (w3.alloc (.cells #[.int .i64 0, .slice none 0 0, .string .empty, .int .i64 0] 25))) := Lib.hid ((B0.out.trans (b3.mono B0.out.size)).alloc (B0.out.trans (b3.mono B0.out.size)).size _)
    have e0 : (w3.alloc (.cells #[.int .i64 0, .slice none 0 0, .string .empty, .int .i64 0] 25)).cell? ⟨w.heap.size, 0, none⟩ = some (.int .i64 0) := J5.out.cell 0
    have e1 : (w3.alloc (.cells #[.int .i64 0, .slice none 0 0, .string .empty, .int .i64 0] 25)).cell? ⟨w.heap.size, 1, none⟩ = some (.slice none 0 0) := J5.out.cell 1
    have e2 : (w3.alloc (.cells #[.int .i64 0, .slice none 0 0, .string .empty, .int .i64 0] 25)).cell? ⟨w.heap.size, 2, none⟩ = some (.string .empty) := J5.out.cell 2
    have e3 : (w3.alloc (.cells #[.int .i64 0, .slice none 0 0, .string .empty, .int .i64 0] 25)).cell? ⟨w.heap.size, 3, none⟩ = some (.int .i64 0) := J5.out.cell 3
    have f0 := J5.out.free 0
    have f1 := J5.out.free 1
    have f2 := J5.out.free 2
    have f3 := J5.out.free 3
    clear hno b3 B0 K0
    go_wp2_with fail
    refine bodyPost_ret (v := .tuple #[.agg #[.int .i64 0, .slice none 0 0, .string .empty, .int .i64 0], .int .i64 0, .bool false]) (by simp [results, Tryz.results12, go_sem, e0, e1, e2, e3]; rfl) rfl ?_
    exact .inr ⟨rfl, NC.out, below_s4 B5.out (Nat.le_refl _) _ _ _ _⟩

set_option maxRecDepth 100000 in
set_option maxHeartbeats 4000000 in
theorem DrawConnectFrom_any (v : Value) (bs : List Int) (w : World) (hv : Came .u8 w w.heap.size v bs) :
    Calls Tryz.prog 16 #[v] w fun e w' => ∃ t : ByteArray, e = .returned (.string t) ∧ t.size ≤ 1010 ∧ Below w.heap.size w w' := by
  go_enter Tryz.func16, Tryz.ntmps16
  go_wp2_with fail
  refine (l6Open_any _ bs w.heap.size _ hv (Nat.le_refl _)).mono ?_
  rintro e w1 ⟨rfl, r1, b1⟩
  have R1 := Lib.hid r1
  have B1 := Lib.hid b1
  have zr := r1.lt
  clear r1 b1
  go_wp2_with fail
  refine (l91Address_any w.heap.size w.heap.size 0 _ R1.out (by omega)).mono ?_
  rintro e w2 ⟨k, q, qs, nm, pt, p2, rfl, o2, l2, hs, hp2, r2, g2⟩
  obtain ⟨A, c, rfl, _, _, _⟩ := o2.form
  have hns : nm.size < 4294967281 := by omega
  have O2 := Lib.hid o2
  have R2 := Lib.hid r2
  have B2 := Lib.hid (below_only B1.out g2 (by omega) (Nat.le_refl _))
  clear r2 g2 R1 B1 o2
  go_wp2_with fail
  refine (spec_ConnectText_any k _ nm pt qs _ O2.out.ints.zero hns).mono ?_
  rintro e w3 ⟨rfl, b3⟩
  have hcz : (conX k qs nm pt).size ≤ 1000 := by
    cases ha : adOk k qs nm pt
    · rw [conX_not ha]
      decide
    · rw [conX_ok ha, conT_size]
      have := adT_size ha
      omega
  obtain ⟨C, hC⟩ : ∃ C, conX k qs nm pt = C := ⟨_, rfl⟩
  rw [hC] at hcz ⊢
  have HCZ := Lib.hid hcz
  have R3 := Lib.hid (R2.out.below b3)
  have B3 := Lib.hid (B2.out.trans (b3.mono B2.out.size))
  clear b3 hC hcz R2 B2 O2
  go_wp2_with fail
  refine (l92Text_any w.heap.size w.heap.size p2 C _ R3.out (by omega) HCZ.out).mono ?_
  rintro e w4 ⟨t, p', rfl, ht, _, _, g4⟩
  have B4 := Lib.hid (below_only B3.out g4 B3.out.size (Nat.le_refl _))
  clear g4
  go_wp2_with fail
  go_ret
  exact ⟨t, rfl, ht, B4.out⟩
end Go.Proofs.YtjnnmihbkieblaaGreatDoor

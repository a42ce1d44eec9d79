/-
  A decimal numeral and a quad, read back: decimal, QuadFrom of the program, l2Number, QuadText, QuadFrom of the reference. Conditions: the text is shorter than 2^32 - 15; the library's tables and error variables read as they were laid.
-/
import Derived.Test.YtjnnmihbkieblaaGreatDoorFromT
import Derived.Test.YtjnnmihbkieblaaGreatDoorBeg
import Derived.Lib.AtoiErrMem
namespace Go.Proofs.YtjnnmihbkieblaaGreatDoor
open Go.RowKit Go.Sort

/-- The library's two error variables hold errors. -/
def Errs (w : World) : Prop := (∃ te pe, w.cell? ⟨1, 0, none⟩ = some (.iface te pe)) ∧ ∃ te pe, w.cell? ⟨2, 0, none⟩ = some (.iface te pe)
theorem Errs.below {w w' : World} (h : Errs w) (hb : Below w.heap.size w w') : Errs w' := by
  obtain ⟨⟨a, b, h1⟩, ⟨c, d, h2⟩⟩ := h
  exact ⟨⟨a, b, (hb.cell (p := ⟨_, 0, none⟩) (block_lt_of_cell h1)).trans h1⟩, ⟨c, d, (hb.cell (p := ⟨_, 0, none⟩) (block_lt_of_cell h2)).trans h2⟩⟩
theorem dcm_ok {s : ByteArray} {v : Int} (h : dcm s = some v) : Lib.atoiAll s.data.toList = .ok v ∧ (⟨(Lib.itoa v).toArray⟩ : ByteArray) = s := by
  have h0 := dcm_some h
  unfold dcm at h
  split at h
  · split at h
    · rename_i hi _
      injection h with h
      rw [h] at hi
      exact ⟨hi, ext_of_ (by simpa using h0)⟩
    · cases h
  · cases h
theorem dcm_none {s : ByteArray} {v : Int} (h : dcm s = none) (hv : Lib.atoiAll s.data.toList = .ok v) : ((⟨(Lib.itoa v).toArray⟩ : ByteArray).toList == s.toList) = false := by
  unfold dcm at h
  rw [hv] at h
  simp only at h
  split at h
  · cases h
  · rename_i hne
    rw [beq_eq_false_iff_ne]
    intro e
    apply hne
    rw [Lib.toList_data, Lib.toList_data] at e
    simpa using e
theorem grown_below {w w' : World} (h : w' = w ∨ ∃ t, w' = Lib.bytesWorld w 5 t) : Below w.heap.size w w' := by
  rcases h with rfl | ⟨t, rfl⟩
  · exact Below.refl _ _
  · exact Lib.bytesWorld_below w _ t
theorem itoaZ_any (v : Int) (h0 : -9223372036854775808 ≤ v) (h1 : v ≤ 9223372036854775807) (w : World) (ht : Tabs w) : Calls Tryz.prog 59 #[.int .i64 v] w fun e w' => e = .returned (.string ⟨(Lib.itoa v).toArray⟩) ∧ Below w.heap.size w w' := by
  refine (Go.Proofs.Tryz.strconv_Itoa v h0 h1 w ht).mono ?_
  rintro e w' ⟨rfl, k, os, rfl⟩
  exact ⟨rfl, Lib.below_grow w.heap.size w (Nat.le_refl _) k os⟩

set_option maxRecDepth 100000 in
theorem decimal_ok (s : ByteArray) (v : Int) (w : World) (h : dcm s = some v) (hs : s.size < 4294967281) (ht : Tabs w) :
    Calls Tryz.prog 48 #[.string s] w fun e w' => e = .returned (.tuple #[.int .i64 v, .bool true]) ∧ Below w.heap.size w w' := by
  obtain ⟨h1, h2⟩ := dcm_ok h
  obtain ⟨h3, h4⟩ := Lib.atoiAll_bounds h1
  have QA := Lib.hid (Go.Proofs.Tryz.strconv_Atoi_ok s (by omega) v h1 w)
  have QI := Lib.hid (fun W => itoaZ_any v h3 h4 W)
  rw [h2] at QI
  have HT := Lib.hid ht
  clear h h1 h2 h3 h4 ht
  go_enter Tryz.func48, Tryz.ntmps48
  go_wp2_with fail
  refine QA.out.mono ?_
  rintro e w1 ⟨rfl, g1⟩
  have B1 := Lib.hid (grown_below g1)
  clear g1
  go_wp2_with fail
  refine (QI.out _ (HT.out.below B1.out)).mono ?_
  rintro e w2 ⟨rfl, b2⟩
  have B2 := Lib.hid (B1.out.trans (b2.mono B1.out.size))
  clear b2
  go_wp2_with fail
  go_ret2
  exact ⟨by simp, B2.out⟩

/-- Behind a numeral that is none. -/
def DecNo (w : World) (e : Ending) (w' : World) : Prop := ∃ v : Int, e = .returned (.tuple #[.int .i64 v, .bool false]) ∧ Below w.heap.size w w'
set_option maxRecDepth 100000 in
theorem decimal_no (s : ByteArray) (w : World) (h : dcm s = none) (hs : s.size < 4294967281) (ht : Tabs w) (he : Errs w) :
    Calls Tryz.prog 48 #[.string s] w fun e w' => DecNo w e w' := by
  have HT := Lib.hid ht
  rcases hv : Lib.atoiAll s.data.toList with v | _ | _
  · obtain ⟨h3, h4⟩ := Lib.atoiAll_bounds hv
    have QA := Lib.hid (Go.Proofs.Tryz.strconv_Atoi_ok s (by omega) v hv w)
    have QI := Lib.hid (fun W => itoaZ_any v h3 h4 W)
    have hne := dcm_none h hv
    obtain ⟨T, hT⟩ : ∃ T, (⟨(Lib.itoa v).toArray⟩ : ByteArray) = T := ⟨_, rfl⟩
    rw [hT] at hne QI
    clear h hv h3 h4 ht he hT
    go_enter Tryz.func48, Tryz.ntmps48
    go_wp2_with fail
    refine QA.out.mono ?_
    rintro e w1 ⟨rfl, g1⟩
    have B1 := Lib.hid (grown_below g1)
    clear g1
    go_wp2_with fail
    refine (QI.out _ (HT.out.below B1.out)).mono ?_
    rintro e w2 ⟨rfl, b2⟩
    have B2 := Lib.hid (B1.out.trans (b2.mono B1.out.size))
    clear b2
    go_wp2_with fail
    go_ret2
    exact ⟨v, by simp, B2.out⟩
  · obtain ⟨te, pe, hc⟩ := he.1
    have QA := Lib.hid (Go.Proofs.Tryz.strconv_Atoi_syntax s (by omega) hv _ w hc (.inr ⟨te, pe, rfl⟩))
    clear h hv ht he hc
    go_enter Tryz.func48, Tryz.ntmps48
    go_wp2_with fail
    refine QA.out.mono ?_
    rintro e w1 ⟨g, rfl, _, _, b1⟩
    have B1 := Lib.hid b1
    clear b1
    go_wp2_with fail
    go_ret2
    exact ⟨0, by simp, B1.out⟩
  · obtain ⟨te, pe, hc⟩ := he.2
    have QA := Lib.hid (Go.Proofs.Tryz.strconv_Atoi_range s (by omega) hv _ w hc (.inr ⟨te, pe, rfl⟩))
    clear h hv ht he hc
    go_enter Tryz.func48, Tryz.ntmps48
    go_wp2_with fail
    refine QA.out.mono ?_
    rintro e w1 ⟨g, rfl, _, _, b1⟩
    have B1 := Lib.hid b1
    clear b1
    go_wp2_with fail
    go_ret2
    exact ⟨_, by simp; rfl, B1.out⟩

/-- Behind a quad that is read from a text. -/
def QuadGave (s : ByteArray) (w : World) (e : Ending) (w' : World) : Prop :=
  (∃ v q, e = .returned (.tuple #[v, .bool true]) ∧ quadOk q = true ∧ quadB q = s ∧ Own w' w.heap.size v q ∧ Below w.heap.size w w') ∨
  (∃ A c, e = .returned (.tuple #[.slice A 0 c, .bool false]) ∧ NoQuad s ∧ Below w.heap.size w w')
theorem dcm_step {P : List ByteArray} {k : Nat} {p : ByteArray} {outs : List Int} {v : Int} (h : (P.take k).map dcm = outs.map some) (hp : P[k]? = some p) (hv : dcm p = some v) : (P.take (k + 1)).map dcm = (outs ++ [v]).map some := by
  obtain ⟨hk, rfl⟩ := List.getElem?_eq_some_iff.1 hp
  rw [List.take_succ_eq_append_getElem hk, List.map_append, List.map_append, h]
  simp [hv]

set_option maxRecDepth 100000 in
set_option maxHeartbeats 2000000 in
theorem impl_QuadFrom_any (s : ByteArray) (w : World) (hs : s.size < 4294967281) (ht : Tabs w) (he : Errs w) : Calls Tryz.prog 49 #[.string s] w fun e w' => QuadGave s w e w' := by
  have hsp := Split_any s 46 w hs
  have hnb := pieces_le 46 s
  have hmem : ∀ p, p ∈ piecesB 46 s → p.size < 4294967281 := fun p hp => by have := piecesB_size hp; omega
  obtain ⟨P, hP⟩ : ∃ P, piecesB 46 s = P := ⟨_, rfl⟩
  obtain ⟨n, hn⟩ : ∃ n, P.length = n := ⟨_, rfl⟩
  rw [hP] at hsp hmem hnb
  rw [hn] at hsp hnb
  have hnm : n ≤ 4294967281 := by omega
  have HSP := Lib.hid hsp
  have HP := Lib.hid hP
  have HN := Lib.hid hn
  have HM := Lib.hid hmem
  obtain ⟨V, hV⟩ : ∃ V, w.alloc (.cells (sv P).toArray 9) = V := ⟨_, rfl⟩
  have SG : Hid (Seg V 9 w.heap.size 0 (sv P)) := Lib.hid (by rw [← hV]; exact strs_at rfl)
  have BV : Hid (Below w.heap.size w V) := Lib.hid (by rw [← hV]; exact (Below.refl _ _).alloc (Nat.le_refl _) _)
  have zV : V.heap.size = w.heap.size + 1 := by rw [← hV]; simp
  have TV := Lib.hid (ht.below BV.out)
  have EV := Lib.hid (he.below BV.out)
  rw [hV] at HSP
  clear hsp hP hn hmem hnb hs ht he hV
  go_enter Tryz.func49, Tryz.ntmps49
  go_wp2_with fail
  refine HSP.out.mono ?_
  rintro e w1 ⟨rfl, hw⟩
  rw [hw]
  clear hw
  go_wp2_with fail
  go_loopw [4, 12] (fun o i wr => ∃ (k : Nat) (outs : List Int), k ≤ n ∧ i = .int .i64 k ∧ Hid ((P.take k).map dcm = outs.map some) ∧ Hid (outs.length = k) ∧ Hid (Own wr V.heap.size o outs) ∧ Hid (Below V.heap.size V wr)) (fun _ i _ => n - (intOf i).toNat)
  case atStart => exact ⟨0, [], Nat.zero_le _, rfl, Lib.hid rfl, Lib.hid rfl, Lib.hid (Own.nil_ _ _), Lib.hid (Below.refl _ _)⟩
  case round =>
    obtain ⟨k, outs, hk, rfl, HD, HL, HO, HB⟩ := hrel
    by_cases hlt : k < n
    · have hi : (k : Int) < (n : Int) := by omega
      obtain ⟨p, hp⟩ : ∃ p, P[k]? = some p := ⟨P[k]'(by have := HN.out; omega), List.getElem?_eq_getElem _⟩
      have c0 := SG.out.cell (sv_get hp)
      rw [Nat.zero_add] at c0
      have c1 := (HB.out.cell (p := ⟨w.heap.size, k, none⟩) (show w.heap.size < V.heap.size by omega)).trans c0
      have hps := HM.out p (List.mem_of_getElem? hp)
      have HPS := Lib.hid hps
      have HPK := Lib.hid hp
      have TW := Lib.hid (TV.out.below HB.out)
      have EW := Lib.hid (EV.out.below HB.out)
      clear c0 hp hps
      cases hd : dcm p with
      | none =>
        have HDN := Lib.hid hd
        clear hd
        go_wp2_with fail
        refine (decimal_no p _ HDN.out HPS.out TW.out EW.out).mono ?_
        rintro e w2 ⟨v, rfl, b2⟩
        have B2 := Lib.hid (BV.out.trans ((HB.out.trans (b2.mono HB.out.size)).mono BV.out.size))
        clear b2 c1
        go_wp2_with fail
        go_ret2
        exact .inr ⟨none, 0, rfl, noQuad_part (by rw [HP.out]; exact List.mem_of_getElem? HPK.out) HDN.out, B2.out⟩
      | some v =>
        have HDS := Lib.hid hd
        clear hd
        go_wp2_with fail
        refine (decimal_ok p v _ HDS.out HPS.out TW.out).mono ?_
        rintro e w2 ⟨rfl, b2⟩
        have B2 := Lib.hid (HB.out.trans (b2.mono HB.out.size))
        have O2 := Lib.hid (HO.out.below b2)
        have hsz := B2.out.size
        have hzk := HL.out
        clear b2 c1
        go_wp2_with (at_builtin; refine wp_ints rfl (.tmp 23) (.tmp 25) rfl rfl rfl (O2.out.alloc _) (lit1 _ _) (by simp; omega) (by simp; omega) ?_; intro v3 w3 o3 b3 g3 k3)
        go_roundw
        case rel => exact ⟨k + 1, outs ++ [v], by omega, by go_num, Lib.hid (dcm_step HD.out HPK.out HDS.out), Lib.hid (by rw [List.length_append, hzk]; rfl), Lib.hid o3, Lib.hid ((B2.out.alloc B2.out.size _).trans b3)⟩
        case measure => simp [intOf]; omega
    · have hi : ¬ (k : Int) < (n : Int) := by omega
      have hkn : k = n := by omega
      subst hkn
      have HE : Hid ((piecesB 46 s).map dcm = outs.map some) := Lib.hid (by
        have h := HD.out
        rw [List.take_of_length_le (by have := HN.out; omega)] at h
        rw [HP.out]
        exact h)
      have BW := Lib.hid (BV.out.trans (HB.out.mono BV.out.size))
      cases hq : quadOk outs
      · have HQ := Lib.hid (noQuad_not HE.out hq)
        go_wp2_with (go_at_call 55; refine (impl_QuadValid_any _ outs _ HO.out.ints.zero).mono ?_; rintro e w2 ⟨rfl, rfl⟩; rw [hq])
        go_ret2
        exact .inr ⟨none, 0, rfl, HQ.out, BW.out⟩
      · have HQ := Lib.hid (quad_of_parts HE.out hq)
        have HQQ := Lib.hid hq
        go_wp2_with (go_at_call 55; refine (impl_QuadValid_any _ outs _ HO.out.ints.zero).mono ?_; rintro e w2 ⟨rfl, rfl⟩; rw [hq])
        go_ret2
        exact .inl ⟨_, outs, rfl, HQQ.out, HQ.out, HO.out.more (by omega), BW.out⟩

theorem digit_all_succ {l : List UInt8} {k : Nat} (hk : k < l.length) (h : (l.take k).all digit = true) (h0 : 48 ≤ l[k].toNat) (h1 : l[k].toNat ≤ 57) : (l.take (k + 1)).all digit = true := by
  rw [List.take_succ_eq_append_getElem hk, List.all_append, h]
  simp [digit, h0, h1]
theorem numD_succ {l : List UInt8} {k : Nat} (hk : k < l.length) : numD (l.take (k + 1)) = 10 * numD (l.take k) + (l[k].toNat - 48) := by
  unfold numD
  rw [List.take_succ_eq_append_getElem hk, List.foldl_append]
  rfl
theorem numD_ltN : ∀ (n : Nat) (l : List UInt8), l.length = n → l.all digit = true → numD l < 10 ^ n := by
  intro n
  induction n with
  | zero =>
    intro l hl _
    have : l = [] := List.eq_nil_of_length_eq_zero hl
    subst this
    simp [numD]
  | succ n ih =>
    intro l hl hd
    have h1 := numD_succ (l := l) (k := n) (by omega)
    rw [List.take_of_length_le (by omega)] at h1
    have h2 := ih (l.take n) (by rw [List.length_take]; omega) (by
      rw [List.all_eq_true] at hd ⊢
      exact fun c hc => hd c (List.mem_of_mem_take hc))
    have h3 : l[n].toNat ≤ 57 := by
      rw [List.all_eq_true] at hd
      have := hd l[n] (List.getElem_mem _)
      simp [digit] at this
      omega
    rw [Nat.pow_succ]
    omega
theorem not_digit {s : ByteArray} {k : Nat} (hk : k < s.data.toList.length) (h : ¬ (48 ≤ s.data.toList[k].toNat ∧ s.data.toList[k].toNat ≤ 57)) : l2N s = -1 := by
  unfold l2N
  rw [if_neg]
  rintro ⟨_, _, h3⟩
  rw [List.all_eq_true] at h3
  have h4 := h3 _ (List.getElem_mem hk)
  simp only [digit, Bool.and_eq_true, decide_eq_true_eq] at h4
  exact h h4

set_option maxRecDepth 100000 in
set_option maxHeartbeats 2000000 in
theorem l2Number_any (s : ByteArray) (w : World) : Calls Tryz.prog 53 #[.string s] w fun e w' => e = .returned (.int .i64 (l2N s)) ∧ ∃ n, w' = w.drewN n := by
  obtain ⟨z, hz⟩ : ∃ z, s.size = z := ⟨_, rfl⟩
  by_cases h15 : 1 ≤ z ∧ z ≤ 5
  · have hin : inR (z : Int) 1 5 = true := by simp [inR]; omega
    have h1 := h15.1
    have h5 := h15.2
    have hll : s.data.toList.length = z := by
      rw [← hz]
      show s.data.toList.length = s.data.size
      simp
    have HLL := Lib.hid hll
    have HZ := Lib.hid hz
    clear h15 hll
    go_enter Tryz.func53, Tryz.ntmps53
    go_wp2_with (go_at_call 41; refine (l6In_any _ _ _ _).mono ?_; rintro e w' ⟨rfl, rfl⟩; rw [hin])
    go_loopw [3, 4] (fun o i wr => ∃ (k m : Nat), k ≤ z ∧ i = .int .i64 k ∧ o = .int .i64 m ∧ Hid ((s.data.toList.take k).all digit = true) ∧ Hid (numD (s.data.toList.take k) = m) ∧ Hid (∃ d, wr = w.drewN d)) (fun _ i _ => z - (intOf i).toNat)
    case atStart => exact ⟨0, 0, Nat.zero_le _, rfl, rfl, Lib.hid rfl, Lib.hid rfl, Lib.hid ⟨0, rfl⟩⟩
    case round =>
      obtain ⟨k, m, hk, rfl, rfl, HD, HM, HW⟩ := hrel
      by_cases hlt : k < z
      · have hi : (k : Int) < (z : Int) := by omega
        have hkz : k < s.size := by omega
        have hkl : k < s.data.toList.length := by have := HLL.out; omega
        have hgt : s.data.toList[k] = s[k] := by simp; rfl
        have hm : m ≤ 9999 := by
          have h := numD_ltN k (s.data.toList.take k) (by rw [List.length_take]; omega) HD.out
          rw [HM.out] at h
          have h2 : 10 ^ k ≤ 10 ^ 4 := Nat.pow_le_pow_right (by omega) (by omega)
          omega
        have hm0 : (0 : Int) ≤ (m : Int) := by omega
        have hm1 : (m : Int) ≤ 9999 := by omega
        by_cases hlo : 48 ≤ s[k].toNat
        · by_cases hhi : s[k].toNat ≤ 57
          · have HD2 := Lib.hid (digit_all_succ hkl HD.out (by rw [hgt]; exact hlo) (by rw [hgt]; exact hhi))
            have HM2 := numD_succ hkl
            rw [hgt, HM.out] at HM2
            have HMN := Lib.hid HM2
            have l1 : (48 : Int) ≤ (s[k].toNat : Int) := by omega
            have l2 : (s[k].toNat : Int) ≤ 57 := by omega
            have l3 : ¬ (s[k].toNat : Int) < 48 := by omega
            have l4 : ¬ (57 : Int) < (s[k].toNat : Int) := by omega
            clear HM2 hgt hlo hhi
            go_wp2_with fail
            go_roundw
            case rel => exact ⟨k + 1, 10 * m + (s[k].toNat - 48), by omega, by go_num, by go_num, HD2, HMN, HW⟩
            case measure => simp [intOf]; omega
          · have E := Lib.hid (not_digit hkl (by rw [hgt]; omega))
            have l1 : ¬ (s[k].toNat : Int) < 48 := by omega
            have l4 : (57 : Int) < (s[k].toNat : Int) := by omega
            clear hgt hlo hhi
            go_wp2_with fail
            go_ret
            exact ⟨by rw [E.out]; rfl, HW.out⟩
        · have E := Lib.hid (not_digit hkl (by rw [hgt]; omega))
          have l1 : (s[k].toNat : Int) < 48 := by omega
          clear hgt hlo
          go_wp2_with fail
          go_ret
          exact ⟨by rw [E.out]; rfl, HW.out⟩
      · have hi : ¬ (k : Int) < (z : Int) := by omega
        have E : Hid (l2N s = (m : Int)) := Lib.hid (by
          have h1 := HD.out
          have h2 := HM.out
          rw [List.take_of_length_le (by have := HLL.out; omega)] at h1 h2
          unfold l2N
          rw [if_pos ⟨by have := HZ.out; omega, by have := HZ.out; omega, h1⟩, h2])
        go_wp2_with fail
        go_ret
        exact ⟨by rw [E.out]; rfl, HW.out⟩
  · have hin : inR (z : Int) 1 5 = false := by simp [inR]; omega
    have E : Hid (l2N s = -1) := Lib.hid (by
      unfold l2N
      rw [if_neg]
      rintro ⟨h1, h2, _⟩
      omega)
    clear h15
    go_enter Tryz.func53, Tryz.ntmps53
    go_wp2_with (go_at_call 41; refine (l6In_any _ _ _ _).mono ?_; rintro e w' ⟨rfl, rfl⟩; rw [hin])
    go_ret
    exact ⟨by rw [E.out]; rfl, 0, rfl⟩

set_option maxRecDepth 100000 in
theorem QuadText_any (v : Value) (qs : List Int) (w : World) (hv : Ints w 0 v qs) : Calls Tryz.prog 80 #[v] w fun e w' => e = .returned (.string (quX qs)) ∧ Below w.heap.size w w' := by
  have HV := Lib.hid hv
  obtain ⟨A, c, rfl, _, _, _⟩ := hv.open_
  clear hv
  cases hq : quadOk qs
  · have E : Hid (quX qs = ⟨#[]⟩) := Lib.hid (by unfold quX; rw [hq]; rfl)
    go_enter Tryz.func80, Tryz.ntmps80
    go_wp2_with (go_at_call 42; refine (spec_QuadValid_any _ qs _ HV.out).mono ?_; rintro e w2 ⟨rfl, rfl⟩; rw [hq])
    go_ret
    exact ⟨by rw [E.out]; rfl, Below.refl _ _⟩
  · have E : Hid (quX qs = quadB qs) := Lib.hid (by unfold quX; rw [hq]; rfl)
    have HQ := Lib.hid hq
    go_enter Tryz.func80, Tryz.ntmps80
    go_wp2_with (go_at_call 42; refine (spec_QuadValid_any _ qs _ HV.out).mono ?_; rintro e w2 ⟨rfl, rfl⟩; rw [hq])
    refine (l2Quad_any _ qs _ HV.out HQ.out).mono ?_
    rintro e w3 ⟨rfl, b3⟩
    have B3 := Lib.hid b3
    clear b3
    go_wp2_with fail
    go_ret
    exact ⟨by rw [E.out]; rfl, B3.out⟩
theorem l2N_step {P : List ByteArray} {k : Nat} {p : ByteArray} {outs : List Int} (h : (P.take k).map l2N = outs) (hp : P[k]? = some p) : (P.take (k + 1)).map l2N = outs ++ [l2N p] := by
  obtain ⟨hk, rfl⟩ := List.getElem?_eq_some_iff.1 hp
  rw [List.take_succ_eq_append_getElem hk, List.map_append, h]
  rfl
theorem eq_none {s : ByteArray} (h : s.toList.isEmpty = true) : s = ⟨#[]⟩ := by
  rcases Nat.eq_zero_or_pos s.size with h0 | h0
  · exact ByteArray.ext (Array.eq_empty_of_size_eq_zero h0)
  · rw [not_none h0] at h
    cases h
theorem beq_no {a b : ByteArray} (h : a ≠ b) : (a.toList == b.toList) = false := by
  rw [beq_eq_false_iff_ne]
  intro e
  apply h
  rw [Lib.toList_data, Lib.toList_data] at e
  exact ext_of_ e

set_option maxRecDepth 100000 in
set_option maxHeartbeats 2000000 in
theorem spec_QuadFrom_any (s : ByteArray) (w : World) (hs : s.size < 4294967281) : Calls Tryz.prog 66 #[.string s] w fun e w' => QuadGave s w e w' := by
  have hsp := spec_l2Cut_any s 46 w (by omega)
  have hpos := pieces_pos 46 s
  have hnb := pieces_le 46 s
  obtain ⟨P, hP⟩ : ∃ P, piecesB 46 s = P := ⟨_, rfl⟩
  obtain ⟨n, hn⟩ : ∃ n, P.length = n := ⟨_, rfl⟩
  rw [hP] at hsp hpos hnb
  rw [hn] at hpos hnb
  have hnm : n ≤ 4294967281 := by omega
  have HSP := Lib.hid hsp
  have HP := Lib.hid hP
  have HN := Lib.hid hn
  clear hsp hP hn hnb hs
  go_enter Tryz.func66, Tryz.ntmps66
  go_wp2_with fail
  refine HSP.out.mono ?_
  rintro e w1 ⟨v1, rfl, o1, b1⟩
  obtain ⟨A, c, rfl, hc1, hc2, hA⟩ := o1.form
  obtain ⟨g, rfl, _, hgl, hs1⟩ := hA.resolve_left (fun h => by have := HN.out; rw [h] at this; simp at this; omega)
  rw [HN.out]
  rw [HN.out] at hc2
  have S1 := Lib.hid hs1
  have B1 := Lib.hid b1
  clear hs1 b1 o1 hA
  go_wp2_with fail
  go_loopw [5, 6] (fun o i wr => ∃ (k : Nat) (outs : List Int), k ≤ n ∧ i = .int .i64 k ∧ Hid ((P.take k).map l2N = outs) ∧ Hid (outs.length = k) ∧ Hid (Own wr w1.heap.size o outs) ∧ Hid (Below w1.heap.size w1 wr)) (fun _ i _ => n - (intOf i).toNat)
  case atStart => exact ⟨0, [], Nat.zero_le _, rfl, Lib.hid rfl, Lib.hid rfl, Lib.hid (Own.lit w1 [] _ (Nat.le_refl _) (by simp)), Lib.hid ((Below.refl _ _).alloc (Nat.le_refl _) _)⟩
  case round =>
    obtain ⟨k, outs, hk, rfl, HD, HL, HO, HB⟩ := hrel
    by_cases hlt : k < n
    · have hi : (k : Int) < (n : Int) := by omega
      obtain ⟨p, hp⟩ : ∃ p, P[k]? = some p := ⟨P[k]'(by have := HN.out; omega), List.getElem?_eq_getElem _⟩
      have c0 := S1.out.cell (sv_get hp)
      rw [Nat.zero_add] at c0
      have c1 := (HB.out.cell (p := ⟨g, k, none⟩) hgl).trans c0
      have HPK := Lib.hid hp
      obtain ⟨x, hx⟩ : ∃ x, l2N p = x := ⟨_, rfl⟩
      have HX := Lib.hid hx
      clear c0 hp hx
      go_wp2_with fail
      refine (l2Number_any p _).mono ?_
      rintro e w2 ⟨rfl, d, rfl⟩
      rw [HX.out]
      have hsz := HB.out.size
      have hzk := HL.out
      clear c1
      go_wp2_with (at_builtin; refine wp_ints rfl (.tmp 16) (.tmp 22) rfl rfl rfl ((HO.out.drewN d).alloc _) (lit1 _ _) (by simp; omega) (by simp; omega) ?_; intro v3 w3 o3 b3 g3 k3)
      go_roundw
      case rel => exact ⟨k + 1, outs ++ [x], by omega, by go_num, Lib.hid (by rw [← HX.out]; exact l2N_step HD.out HPK.out), Lib.hid (by rw [List.length_append, hzk]; rfl), Lib.hid o3, Lib.hid (((below_drewN HB.out d).alloc hsz _).trans b3)⟩
      case measure => simp [intOf]; omega
    · have hi : ¬ (k : Int) < (n : Int) := by omega
      have hkn : k = n := by omega
      subst hkn
      have HE : Hid ((piecesB 46 s).map l2N = outs) := Lib.hid (by
        have h := HD.out
        rw [List.take_of_length_le (by have := HN.out; omega)] at h
        rw [HP.out]
        exact h)
      have BW := Lib.hid (B1.out.trans (HB.out.mono B1.out.size))
      have hz1 := B1.out.size
      obtain ⟨A2, c2, rfl, _, _, _⟩ := HO.out.form
      obtain ⟨T, hT⟩ : ∃ T, quX outs = T := ⟨_, rfl⟩
      have ET := Lib.hid hT
      clear hT
      go_wp2_with fail
      refine (QuadText_any _ outs _ HO.out.ints.zero).mono ?_
      rintro e w2 ⟨rfl, b2⟩
      rw [ET.out]
      have O2 := Lib.hid (HO.out.below b2)
      have B2 := Lib.hid (BW.out.trans (b2.mono BW.out.size))
      clear b2
      by_cases hTs : T = s
      · cases h0 : s.toList.isEmpty
        · have hp : 0 < s.size := by
            rcases Nat.eq_zero_or_pos s.size with h | h
            · have : s = ⟨#[]⟩ := ByteArray.ext (Array.eq_empty_of_size_eq_zero h)
              rw [this, show (⟨#[]⟩ : ByteArray) = ByteArray.empty from rfl, none_empty] at h0
              cases h0
            · exact h
          have HQ := Lib.hid (quad_spec (s := s) (by rw [HE.out, ET.out]; exact hTs) hp)
          rw [HE.out] at HQ
          subst hTs
          go_wp2_with fail
          go_ret2
          exact .inl ⟨_, outs, rfl, HQ.out.1, HQ.out.2, O2.out.more (by omega), B2.out⟩
        · have hn : NoQuad s := by rw [eq_none h0]; exact noQuad_empty
          have HQ := Lib.hid hn
          subst hTs
          clear hn
          go_wp2_with fail
          go_ret2
          exact .inr ⟨_, 0, rfl, HQ.out, B2.out.alloc B2.out.size _⟩
      · have HQ : Hid (NoQuad s) := Lib.hid (noQuad_spec (by rw [HE.out, ET.out]; exact hTs))
        have hne := beq_no hTs
        clear hTs
        go_wp2_with fail
        go_ret2
        exact .inr ⟨_, 0, rfl, HQ.out, B2.out.alloc B2.out.size _⟩
end Go.Proofs.YtjnnmihbkieblaaGreatDoor

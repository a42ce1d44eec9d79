/-
  A decimal numeral and a quad, read back: decimal, QuadFrom of the program, l2Number, QuadText, QuadFrom of the reference. Conditions: the text is shorter than 2^32 - 15; the library's tables and error variables read as they were laid.
-/
import Derived.Test.YtjnnmihbkieblaaDoorFromT
import Derived.Test.YtjnnmihbkieblaaDoorBeg
import Derived.Lib.AtoiErrMem
namespace Go.Proofs.YtjnnmihbkieblaaDoor
open Go.RowKit Go.Sort

/-- The library's two error variables hold errors. -/
def Errs (w : World) : Prop := (∃ te pe, w.cell? ⟨3, 0, none⟩ = some (.iface te pe)) ∧ ∃ te pe, w.cell? ⟨4, 0, none⟩ = some (.iface te pe)
theorem Errs.below {w w' : World} (h : Errs w) (hb : Below w.heap.size w w') : Errs w' := by
  obtain ⟨⟨a, b, h1⟩, ⟨c, d, h2⟩⟩ := h
  exact ⟨⟨a, b, (hb.cell (p := ⟨_, 0, none⟩) (block_lt_of_cell h1)).trans h1⟩, ⟨c, d, (hb.cell (p := ⟨_, 0, none⟩) (block_lt_of_cell h2)).trans h2⟩⟩
theorem dcm_ok {s : ByteArray} {v : Int} (h : dcm s = some v) : Lib.atoiAll s.data.toList = .ok v ∧ (⟨(Lib.itoa v).toArray⟩ : ByteArray) = s := by
  have h0 := dcm_some h
  unfold dcm at h
  split at h
  · split at h
    · rename_i hi _
      injection h with h
      rw [h] at hi
      exact ⟨hi, ext_of_ (by simpa using h0)⟩
    · cases h
  · cases h
theorem dcm_none {s : ByteArray} {v : Int} (h : dcm s = none) (hv : Lib.atoiAll s.data.toList = .ok v) : ((⟨(Lib.itoa v).toArray⟩ : ByteArray).toList == s.toList) = false := by
  unfold dcm at h
  rw [hv] at h
  simp only at h
  split at h
  · cases h
  · rename_i hne
    rw [beq_eq_false_iff_ne]
    intro e
    apply hne
    rw [Lib.toList_data, Lib.toList_data] at e
    simpa using e
theorem grown_below {w w' : World} (h : w' = w ∨ ∃ t, w' = Lib.bytesWorld w 5 t) : Below w.heap.size w w' := by
  rcases h with rfl | ⟨t, rfl⟩
  · exact Below.refl _ _
  · exact Lib.bytesWorld_below w _ t
theorem itoaZ_any (v : Int) (h0 : -9223372036854775808 ≤ v) (h1 : v ≤ 9223372036854775807) (w : World) (ht : Tabs w) : Calls Tryd.prog 13 #[.int .i64 v] w fun e w' => e = .returned (.string ⟨(Lib.itoa v).toArray⟩) ∧ Below w.heap.size w w' := by
  refine (Go.Proofs.Tryd.strconv_Itoa v h0 h1 w ht).mono ?_
  rintro e w' ⟨rfl, k, os, rfl⟩
  exact ⟨rfl, Lib.below_grow w.heap.size w (Nat.le_refl _) k os⟩

set_option maxRecDepth 100000 in
theorem decimal_ok (s : ByteArray) (v : Int) (w : World) (h : dcm s = some v) (hs : s.size < 4294967281) (ht : Tabs w) :
    Calls Tryd.prog 19 #[.string s] w fun e w' => e = .returned (.tuple #[.int .i64 v, .bool true]) ∧ Below w.heap.size w w' := by
  obtain ⟨h1, h2⟩ := dcm_ok h
  obtain ⟨h3, h4⟩ := Lib.atoiAll_bounds h1
  have QA := Lib.hid (Go.Proofs.Tryd.strconv_Atoi_ok s (by omega) v h1 w)
  have QI := Lib.hid (fun W => itoaZ_any v h3 h4 W)
  rw [h2] at QI
  have HT := Lib.hid ht
  clear h h1 h2 h3 h4 ht
  go_enter Tryd.func19, Tryd.ntmps19
  go_wp2_with fail
  refine QA.out.mono ?_
  rintro e w1 ⟨rfl, g1⟩
  have B1 := Lib.hid (grown_below g1)
  clear g1
  go_wp2_with fail
  refine (QI.out _ (HT.out.below B1.out)).mono ?_
  rintro e w2 ⟨rfl, b2⟩
  have B2 := Lib.hid (B1.out.trans (b2.mono B1.out.size))
  clear b2
  go_wp2_with fail
  go_ret2
  exact ⟨by simp, B2.out⟩

/-- Behind a numeral that is none. -/
def DecNo (w : World) (e : Ending) (w' : World) : Prop := ∃ v : Int, e = .returned (.tuple #[.int .i64 v, .bool false]) ∧ Below w.heap.size w w'
set_option maxRecDepth 100000 in
theorem decimal_no (s : ByteArray) (w : World) (h : dcm s = none) (hs : s.size < 4294967281) (ht : Tabs w) (he : Errs w) :
    Calls Tryd.prog 19 #[.string s] w fun e w' => DecNo w e w' := by
  have HT := Lib.hid ht
  rcases hv : Lib.atoiAll s.data.toList with v | _ | _
  · obtain ⟨h3, h4⟩ := Lib.atoiAll_bounds hv
    have QA := Lib.hid (Go.Proofs.Tryd.strconv_Atoi_ok s (by omega) v hv w)
    have QI := Lib.hid (fun W => itoaZ_any v h3 h4 W)
    have hne := dcm_none h hv
    obtain ⟨T, hT⟩ : ∃ T, (⟨(Lib.itoa v).toArray⟩ : ByteArray) = T := ⟨_, rfl⟩
    rw [hT] at hne QI
    clear h hv h3 h4 ht he hT
    go_enter Tryd.func19, Tryd.ntmps19
    go_wp2_with fail
    refine QA.out.mono ?_
    rintro e w1 ⟨rfl, g1⟩
    have B1 := Lib.hid (grown_below g1)
    clear g1
    go_wp2_with fail
    refine (QI.out _ (HT.out.below B1.out)).mono ?_
    rintro e w2 ⟨rfl, b2⟩
    have B2 := Lib.hid (B1.out.trans (b2.mono B1.out.size))
    clear b2
    go_wp2_with fail
    go_ret2
    exact ⟨v, by simp, B2.out⟩
  · obtain ⟨te, pe, hc⟩ := he.1
    have QA := Lib.hid (Go.Proofs.Tryd.strconv_Atoi_syntax s (by omega) hv _ w hc (.inr ⟨te, pe, rfl⟩))
    clear h hv ht he hc
    go_enter Tryd.func19, Tryd.ntmps19
    go_wp2_with fail
    refine QA.out.mono ?_
    rintro e w1 ⟨g, rfl, _, _, b1⟩
    have B1 := Lib.hid b1
    clear b1
    go_wp2_with fail
    go_ret2
    exact ⟨0, by simp, B1.out⟩
  · obtain ⟨te, pe, hc⟩ := he.2
    have QA := Lib.hid (Go.Proofs.Tryd.strconv_Atoi_range s (by omega) hv _ w hc (.inr ⟨te, pe, rfl⟩))
    clear h hv ht he hc
    go_enter Tryd.func19, Tryd.ntmps19
    go_wp2_with fail
    refine QA.out.mono ?_
    rintro e w1 ⟨g, rfl, _, _, b1⟩
    have B1 := Lib.hid b1
    clear b1
    go_wp2_with fail
    go_ret2
    exact ⟨_, by simp; rfl, B1.out⟩

/-- Behind a quad that is read from a text. -/
def QuadGave (s : ByteArray) (w : World) (e : Ending) (w' : World) : Prop :=
  (∃ v q, e = .returned (.tuple #[v, .bool true]) ∧ quadOk q = true ∧ quadB q = s ∧ Own w' w.heap.size v q ∧ Below w.heap.size w w') ∨
  (∃ A c, e = .returned (.tuple #[.slice A 0 c, .bool false]) ∧ NoQuad s ∧ Below w.heap.size w w')
theorem dcm_step {P : List ByteArray} {k : Nat} {p : ByteArray} {outs : List Int} {v : Int} (h : (P.take k).map dcm = outs.map some) (hp : P[k]? = some p) (hv : dcm p = some v) : (P.take (k + 1)).map dcm = (outs ++ [v]).map some := by
  obtain ⟨hk, rfl⟩ := List.getElem?_eq_some_iff.1 hp
  rw [List.take_succ_eq_append_getElem hk, List.map_append, List.map_append, h]
  simp [hv]

set_option maxRecDepth 100000 in
set_option maxHeartbeats 2000000 in
theorem impl_QuadFrom_any (s : ByteArray) (w : World) (hs : s.size < 4294967281) (ht : Tabs w) (he : Errs w) : Calls Tryd.prog 20 #[.string s] w fun e w' => QuadGave s w e w' := by
  have hsp := Split_any s 46 w hs
  have hnb := pieces_le 46 s
  have hmem : ∀ p, p ∈ piecesB 46 s → p.size < 4294967281 := fun p hp => by have := piecesB_size hp; omega
  obtain ⟨P, hP⟩ : ∃ P, piecesB 46 s = P := ⟨_, rfl⟩
  obtain ⟨n, hn⟩ : ∃ n, P.length = n := ⟨_, rfl⟩
  rw [hP] at hsp hmem hnb
  rw [hn] at hsp hnb
  have hnm : n ≤ 4294967281 := by omega
  have HSP := Lib.hid hsp
  have HP := Lib.hid hP
  have HN := Lib.hid hn
  have HM := Lib.hid hmem
  obtain ⟨V, hV⟩ : ∃ V, w.alloc (.cells (sv P).toArray 9) = V := ⟨_, rfl⟩
  have SG : Hid (Seg V 9 w.heap.size 0 (sv P)) := Lib.hid (by rw [← hV]; exact strs_at rfl)
  have BV : Hid (Below w.heap.size w V) := Lib.hid (by rw [← hV]; exact (Below.refl _ _).alloc (Nat.le_refl _) _)
  have zV : V.heap.size = w.heap.size + 1 := by rw [← hV]; simp
  have TV := Lib.hid (ht.below BV.out)
  have EV := Lib.hid (he.below BV.out)
  rw [hV] at HSP
  clear hsp hP hn hmem hnb hs ht he hV
  go_enter Tryd.func20, Tryd.ntmps20
  go_wp2_with fail
  refine HSP.out.mono ?_
  rintro e w1 ⟨rfl, hw⟩
  rw [hw]
  clear hw
  go_wp2_with fail
  go_loopw [4, 12] (fun o i wr => ∃ (k : Nat) (outs : List Int), k ≤ n ∧ i = .int .i64 k ∧ Hid ((P.take k).map dcm = outs.map some) ∧ Hid (outs.length = k) ∧ Hid (Own wr V.heap.size o outs) ∧ Hid (Below V.heap.size V wr)) (fun _ i _ => n - (intOf i).toNat)
  case atStart => exact ⟨0, [], Nat.zero_le _, rfl, Lib.hid rfl, Lib.hid rfl, Lib.hid (Own.nil_ _ _), Lib.hid (Below.refl _ _)⟩
  case round =>
    obtain ⟨k, outs, hk, rfl, HD, HL, HO, HB⟩ := hrel
    by_cases hlt : k < n
    · have hi : (k : Int) < (n : Int) := by omega
      obtain ⟨p, hp⟩ : ∃ p, P[k]? = some p := ⟨P[k]'(by have := HN.out; omega), List.getElem?_eq_getElem _⟩
      have c0 := SG.out.cell (sv_get hp)
      rw [Nat.zero_add] at c0
      have c1 := (HB.out.cell (p := ⟨w.heap.size, k, none⟩) (show w.heap.size < V.heap.size by omega)).trans c0
      have hps := HM.out p (List.mem_of_getElem? hp)
      have HPS := Lib.hid hps
      have HPK := Lib.hid hp
      have TW := Lib.hid (TV.out.below HB.out)
      have EW := Lib.hid (EV.out.below HB.out)
      clear c0 hp hps
      cases hd : dcm p with
      | none =>
        have HDN := Lib.hid hd
        clear hd
        go_wp2_with fail
        refine (decimal_no p _ HDN.out HPS.out TW.out EW.out).mono ?_
        rintro e w2 ⟨v, rfl, b2⟩
        have B2 := Lib.hid (BV.out.trans ((HB.out.trans (b2.mono HB.out.size)).mono BV.out.size))
        clear b2 c1
        go_wp2_with fail
        go_ret2
        exact .inr ⟨none, 0, rfl, noQuad_part (by rw [HP.out]; exact List.mem_of_getElem? HPK.out) HDN.out, B2.out⟩
      | some v =>
        have HDS := Lib.hid hd
        clear hd
        go_wp2_with fail
        refine (decimal_ok p v _ HDS.out HPS.out TW.out).mono ?_
        rintro e w2 ⟨rfl, b2⟩
        have B2 := Lib.hid (HB.out.trans (b2.mono HB.out.size))
        have O2 := Lib.hid (HO.out.below b2)
        have hsz := B2.out.size
        have hzk := HL.out
        clear b2 c1
        go_wp2_with (at_builtin; refine wp_ints rfl (.tmp 23) (.tmp 25) rfl rfl rfl (O2.out.alloc _) (lit1 _ _) (by simp; omega) (by simp; omega) ?_; intro v3 w3 o3 b3 g3 k3)
        go_roundw
        case rel => exact ⟨k + 1, outs ++ [v], by omega, by go_num, Lib.hid (dcm_step HD.out HPK.out HDS.out), Lib.hid (by rw [List.length_append, hzk]; rfl), Lib.hid o3, Lib.hid ((B2.out.alloc B2.out.size _).trans b3)⟩
        case measure => simp [intOf]; omega
    · have hi : ¬ (k : Int) < (n : Int) := by omega
      have hkn : k = n := by omega
      subst hkn
      have HE : Hid ((piecesB 46 s).map dcm = outs.map some) := Lib.hid (by
        have h := HD.out
        rw [List.take_of_length_le (by have := HN.out; omega)] at h
        rw [HP.out]
        exact h)
      have BW := Lib.hid (BV.out.trans (HB.out.mono BV.out.size))
      cases hq : quadOk outs
      · have HQ := Lib.hid (noQuad_not HE.out hq)
        go_wp2_with (go_at_call 31; refine (impl_QuadValid_any _ outs _ HO.out.ints.zero).mono ?_; rintro e w2 ⟨rfl, rfl⟩; rw [hq])
        go_ret2
        exact .inr ⟨none, 0, rfl, HQ.out, BW.out⟩
      · have HQ := Lib.hid (quad_of_parts HE.out hq)
        have HQQ := Lib.hid hq
        go_wp2_with (go_at_call 31; refine (impl_QuadValid_any _ outs _ HO.out.ints.zero).mono ?_; rintro e w2 ⟨rfl, rfl⟩; rw [hq])
        go_ret2
        exact .inl ⟨_, outs, rfl, HQQ.out, HQ.out, HO.out.more (by omega), BW.out⟩

theorem digit_all_succ {l : List UInt8} {k : Nat} (hk : k < l.length) (h : (l.take k).all digit = true) (h0 : 48 ≤ l[k].toNat) (h1 : l[k].toNat ≤ 57) : (l.take (k + 1)).all digit = true := by
  rw [List.take_succ_eq_append_getElem hk, List.all_append, h]
  simp [digit, h0, h1]
theorem numD_succ {l : List UInt8} {k : Nat} (hk : k < l.length) : numD (l.take (k + 1)) = 10 * numD (l.take k) + (l[k].toNat - 48) := by
  unfold numD
  rw [List.take_succ_eq_append_getElem hk, List.foldl_append]
  rfl
theorem numD_ltN : ∀ (n : Nat) (l : List UInt8), l.length = n → l.all digit = true → numD l < 10 ^ n := by
  intro n
  induction n with
  | zero =>
    intro l hl _
    have : l = [] := List.eq_nil_of_length_eq_zero hl
    subst this
    simp [numD]
  | succ n ih =>
    intro l hl hd
    have h1 := numD_succ (l := l) (k := n) (by omega)
    rw [List.take_of_length_le (by omega)] at h1
    have h2 := ih (l.take n) (by rw [List.length_take]; omega) (by
      rw [List.all_eq_true] at hd ⊢
      exact fun c hc => hd c (List.mem_of_mem_take hc))
    have h3 : l[n].toNat ≤ 57 := by
      rw [List.all_eq_true] at hd
      have := hd l[n] (List.getElem_mem _)
      simp [digit] at this
      omega
    rw [Nat.pow_succ]
    omega
theorem not_digit {s : ByteArray} {k : Nat} (hk : k < s.data.toList.length) (h : ¬ (48 ≤ s.data.toList[k].toNat ∧ s.data.toList[k].toNat ≤ 57)) : l2N s = -1 := by
  unfold l2N
  rw [if_neg]
  rintro ⟨_, _, h3⟩
  rw [List.all_eq_true] at h3
  have h4 := h3 _ (List.getElem_mem hk)
  simp only [digit, Bool.and_eq_true, decide_eq_true_eq] at h4
  exact h h4

theorem l2N_step {P : List ByteArray} {k : Nat} {p : ByteArray} {outs : List Int} (h : (P.take k).map l2N = outs) (hp : P[k]? = some p) : (P.take (k + 1)).map l2N = outs ++ [l2N p] := by
  obtain ⟨hk, rfl⟩ := List.getElem?_eq_some_iff.1 hp
  rw [List.take_succ_eq_append_getElem hk, List.map_append, h]
  rfl
theorem eq_none {s : ByteArray} (h : s.toList.isEmpty = true) : s = ⟨#[]⟩ := by
  rcases Nat.eq_zero_or_pos s.size with h0 | h0
  · exact ByteArray.ext (Array.eq_empty_of_size_eq_zero h0)
  · rw [not_none h0] at h
    cases h
theorem beq_no {a b : ByteArray} (h : a ≠ b) : (a.toList == b.toList) = false := by
  rw [beq_eq_false_iff_ne]
  intro e
  apply h
  rw [Lib.toList_data, Lib.toList_data] at e
  exact ext_of_ e

end Go.Proofs.YtjnnmihbkieblaaDoor

/-
  Whether a text is a name: the program's NameValid and the reference's l2Cut and NameValid return the same plain functions. Conditions: the text has fewer than 2^32 - 15 bytes.
  The reference's l2Cut and NameValid return the plain functions of the text. Conditions: the text has fewer than 2^32 - 15 bytes.
-/
import Derived.Test.YtpcflkdeoafpeaaDoorSplit
import Derived.Test.YtpcflkdeoafpeaaDoorOwnStr
namespace Go.Proofs.YtpcflkdeoafpeaaDoor
open Go.RowKit

theorem not_empty {u : ByteArray} (h : 0 < u.size) : u.toList.isEmpty = false ∧ ¬ u.toList = [] := by
  have h2 : ¬ u.toList = [] := by
    rw [ByteArray.toList_eq]
    intro e
    have : u.data.toList.length = 0 := by rw [e]; rfl
    have h3 : u.data.toList.length = u.size := by simp
    omega
  exact ⟨by simpa using h2, h2⟩
theorem is_empty {u : ByteArray} (h : ¬ 0 < u.size) : u = ByteArray.empty := ByteArray.ext (Array.eq_empty_of_size_eq_zero (by show u.size = 0; omega))

/-- strings.Split, told by what lies in the new block. -/
theorem Split_seg (s : ByteArray) (c : UInt8) (w : World) (hs : s.size < 4294967281) :
    Calls Tryd.prog 60 #[.string s, .string ⟨#[c]⟩] w fun e w' => e = .returned (.slice (some ⟨w.heap.size, 0, none⟩) (piecesB c s).length (piecesB c s).length) ∧ Seg w' 9 w.heap.size 0 (sv (piecesB c s)) ∧ Below w.heap.size w w' := by
  refine (Split_any s c w hs).mono ?_
  rintro e w' ⟨rfl, rfl⟩
  exact ⟨rfl, strs_at rfl, (Below.refl _ _).alloc (Nat.le_refl _) _⟩

theorem hyphens : numsOf (⟨#[45]⟩ : ByteArray) = [45] := by rfl
theorem pieces_pos (c : UInt8) (s : ByteArray) : 0 < (piecesB c s).length := by rw [piecesB_length]; omega
theorem pieces_le (c : UInt8) (s : ByteArray) : (piecesB c s).length ≤ s.size + 1 := by
  rw [piecesB_length]
  have h := List.count_le_length (a := c) (l := s.data.toList)
  have e : s.data.toList.length = s.size := by
    show s.data.toList.length = s.data.size
    simp
  omega
theorem lastB_get {ps : List ByteArray} {n : Nat} {p : ByteArray} (hn : ps.length = n) (h : ps[n - 1]? = some p) : lastB ps = (numsOf p).getD 0 0 := by
  rw [lastB, hn]
  simp [List.getD, h]

set_option maxRecDepth 100000 in
set_option maxHeartbeats 2000000 in
theorem impl_NameValid_any (s : ByteArray) (w : World) (hs : s.size < 4294967281) :
    Calls Tryd.prog 51 #[.string s] w fun e w' => e = .returned (.bool (nameOk s)) ∧ Below w.heap.size w w' := by
  have hsp := fun W => Split_seg s 46 W hs
  have hpos := pieces_pos 46 s
  have hnb : (piecesB 46 s).length ≤ 4294967282 := by have h := pieces_le 46 s; omega
  have hmem : ∀ p, p ∈ piecesB 46 s → p.size ≤ maxLen := fun p hp => by have := piecesB_size hp; unfold maxLen; omega
  obtain ⟨P, hP⟩ : ∃ P, piecesB 46 s = P := ⟨_, rfl⟩
  obtain ⟨n, hn⟩ : ∃ n, P.length = n := ⟨_, rfl⟩
  rw [hP] at hsp hpos hmem hnb
  rw [hn] at hsp hpos hnb
  have HSP := Lib.hid hsp
  have HP := Lib.hid hP
  have HN := Lib.hid hn
  have HM := Lib.hid hmem
  clear hsp hP hn hmem
  go_enter Tryd.func51, Tryd.ntmps51
  go_wp2_with (go_at_call 60; refine (HSP.out _).mono ?_; rintro e w1 ⟨rfl, hs1, hb1⟩)
  have S1 := Lib.hid hs1
  have B1 := Lib.hid hb1
  obtain ⟨g, hg⟩ : ∃ g, w.heap.size = g := ⟨_, rfl⟩
  rw [hg] at S1
  change Code.wp _ _ _ _ _
  rw [hg]
  clear hs1 hb1 hg
  go_loop [10] (fun i => ∃ k : Nat, k ≤ n ∧ i = .int .i64 k ∧ Hid (partsTo P k = true)) (fun i => n - (intOf i).toNat)
  case atStart => exact ⟨0, Nat.zero_le _, rfl, Lib.hid (partsTo_zero _)⟩
  case round =>
    obtain ⟨k, hk, rfl, HT⟩ := hrel
    by_cases hlt : k < n
    · have hi : (k : Int) < (n : Int) := by omega
      obtain ⟨p, hp⟩ : ∃ p, P[k]? = some p := ⟨P[k]'(by have := HN.out; omega), List.getElem?_eq_getElem _⟩
      have c1 := S1.out.cell (sv_get hp)
      rw [Nat.zero_add] at c1
      have hpm := HM.out p (List.mem_of_getElem? hp)
      have HPM := Lib.hid hpm
      have HPK := Lib.hid hp
      clear hp hpm
      by_cases h0 : 0 < p.size
      · obtain ⟨e1, e2⟩ := not_empty h0
        cases h1 : wordL [45] p
        · have HF : Hid (nameOk s = false) := Lib.hid (nameOk_not (by rw [HP.out]; exact HPK.out) (by rw [partOk, h1, Bool.and_false]))
          go_wp2_with (go_at_call 61; refine (consists_any p ⟨#[45]⟩ _ HPM.out).mono ?_; rintro e w' ⟨rfl, rfl⟩; rw [hyphens, h1])
          go_ret
          exact ⟨ret_bool HF.out.symm, B1.out⟩
        · have HS : Hid (partsTo P (k + 1) = true) := Lib.hid (partsTo_succ HT.out HPK.out (by rw [partOk, h1, decide_eq_true h0]; rfl))
          go_wp2_with (go_at_call 61; refine (consists_any p ⟨#[45]⟩ _ HPM.out).mono ?_; rintro e w' ⟨rfl, rfl⟩; rw [hyphens, h1])
          go_round
          case rel => exact ⟨k + 1, by omega, by go_num, HS⟩
          case measure => simp [intOf]; omega
      · have HF : Hid (nameOk s = false) := Lib.hid (nameOk_not (by rw [HP.out]; exact HPK.out) (by rw [partOk, decide_eq_false h0]; rfl))
        obtain rfl := is_empty h0
        go_wp2_with fail
        go_ret
        exact ⟨ret_bool HF.out.symm, B1.out⟩
    · have hkn : k = n := by omega
      subst hkn
      have HE : Hid (nameOk s = (decide (s.size ≤ 20) && smallL (lastB P))) := Lib.hid (by
        have h := nameOk_of (s := s) (n := k) (by rw [HP.out]; exact HN.out) (by rw [HP.out]; exact HT.out)
        rwa [HP.out] at h)
      by_cases h20 : s.size ≤ 20
      · have h20' : (s.size : Int) ≤ 20 := by omega
        obtain ⟨p, hp⟩ : ∃ p, P[k - 1]? = some p := ⟨P[k - 1]'(by have := HN.out; omega), List.getElem?_eq_getElem _⟩
        have c1 := S1.out.cell (sv_get hp)
        rw [Nat.zero_add] at c1
        have hpo : 0 < p.size := by
          have h := HT.out
          unfold partsTo at h
          rw [List.all_eq_true] at h
          have h2 := h p (List.mem_of_getElem? (i := k - 1) (by rw [List.getElem?_take, if_pos (by omega)]; exact hp))
          rw [partOk, Bool.and_eq_true, decide_eq_true_eq] at h2
          exact h2.1
        have HL : Hid (lastB P = (p[0].toNat : Int)) := Lib.hid (by rw [lastB_get HN.out hp, numsOf_get hpo])
        have hk0 : (k : Int) - 1 < (k : Int) := by omega
        have hk1 : (1 : Int) ≤ (k : Int) := by omega
        have hk2 : ((k : Int) - 1).toNat = k - 1 := by omega
        have hp0 : (0 : Int) < (p.size : Int) := by omega
        clear hp
        go_wp2_with (go_at_call 62; refine (isLetter_any _ _).mono ?_; rintro e w' ⟨rfl, rfl⟩)
        go_ret
        exact ⟨ret_bool (by rw [HE.out, HL.out, decide_eq_true h20]; rfl), B1.out⟩
      · have h20' : (20 : Int) < (s.size : Int) := by omega
        go_wp2_with fail
        go_ret
        exact ⟨ret_bool (by rw [HE.out, decide_eq_false h20]; rfl), B1.out⟩
end Go.Proofs.YtpcflkdeoafpeaaDoor
namespace Go.Proofs.YtpcflkdeoafpeaaDoor
open Go.RowKit

/-- A part of a text, by its bytes. -/
theorem extract_bs (s : ByteArray) (f k : Nat) : s.extract f k = bs ((s.data.toList.drop f).take (k - f)) := by
  apply ByteArray.ext
  apply Array.toList_inj.1
  show (s.extract f k).data.toList = ((s.data.toList.drop f).take (k - f)).toArray.toList
  rw [ByteArray.data_extract, Array.toList_extract]
theorem drop_take_snoc (L : List UInt8) {f k : Nat} (hf : f ≤ k) (hk : k < L.length) : (L.drop f).take (k + 1 - f) = (L.drop f).take (k - f) ++ [L[k]] := by
  rw [show k + 1 - f = (k - f) + 1 by omega, List.take_succ_eq_append_getElem (by simp; omega)]
  simp
  congr 1
  omega
theorem OwnS.nil0 {W : World} {g base : Nat} (hg : g = W.heap.size) (hb : base ≤ W.heap.size) : OwnS (W.alloc (.cells #[] 9)) base (.slice (some ⟨g, 0, none⟩) 0 0) [] := by
  subst hg
  exact OwnS.lit W [] base hb (by simp)

set_option maxRecDepth 100000 in
set_option maxHeartbeats 2000000 in
theorem spec_l2Cut_any (s : ByteArray) (c : UInt8) (w : World) (hs : s.size ≤ 1000000000000) :
    Calls Tryd.prog 58 #[.string s, .int .u8 (c.toNat : Int)] w fun e w' => ∃ v, e = .returned v ∧ OwnS w' w.heap.size v (piecesB c s) ∧ Below w.heap.size w w' := by
  have hL : s.data.toList.length = s.size := by
    show s.data.toList.length = s.data.size
    simp
  have HL := Lib.hid hL
  clear hL
  have hc0 := c.toNat_lt
  have hc1 : (c.toNat : Int) ≤ 255 := by omega
  go_enter Tryd.func58, Tryd.ntmps58
  go_wp2_with fail
  go_loopw [5, 6, 7] (fun o fr i wr => ∃ (k f : Nat) (d : List (List UInt8)), k ≤ s.size ∧ f ≤ k ∧ i = .int .i64 k ∧ fr = .int .i64 f ∧ Hid (cutTo c (s.data.toList.take k) = (d, (s.data.toList.drop f).take (k - f))) ∧ Hid (d.length ≤ k) ∧ Hid (OwnS wr w.heap.size o (d.map bs)) ∧ Hid (Below w.heap.size w wr)) (fun _ _ i _ => s.size - (intOf i).toNat)
  case atStart => exact ⟨0, 0, [], Nat.zero_le _, Nat.le_refl _, rfl, rfl, Lib.hid (by simp [cutTo, cutFrom]), Lib.hid (by simp), Lib.hid (OwnS.nil0 rfl (Nat.le_refl _)), Lib.hid ((Below.refl _ _).alloc (Nat.le_refl _) _)⟩
  case round =>
    obtain ⟨k, f, d, hk, hf, rfl, rfl, HC, HD, HO, HB⟩ := hrel
    by_cases hlt : k < s.size
    · have hi : (k : Int) < (s.size : Int) := by omega
      have hsnoc : cutTo c (s.data.toList.take (k + 1)) = cutStep c (d, (s.data.toList.drop f).take (k - f)) s[k] := by
        have hkl : k < s.data.toList.length := by rw [HL.out]; exact hlt
        have htk : s.data.toList.take (k + 1) = s.data.toList.take k ++ [s[k]] := List.take_succ_eq_append_getElem hkl
        rw [htk, cutTo_snoc, HC.out]
      have hdr : (s.data.toList.drop f).take (k + 1 - f) = (s.data.toList.drop f).take (k - f) ++ [s[k]] := drop_take_snoc s.data.toList hf (by rw [HL.out]; exact hlt)
      rw [cutStep] at hsnoc
      by_cases he : s[k] = c
      · rw [if_pos he] at hsnoc
        have HN : Hid (cutTo c (s.data.toList.take (k + 1)) = (d ++ [(s.data.toList.drop f).take (k - f)], (s.data.toList.drop (k + 1)).take (k + 1 - (k + 1)))) := Lib.hid (by rw [hsnoc]; simp)
        have HX := Lib.hid (extract_bs s f k)
        have he2 : ((s[k].toNat : Int) == (c.toNat : Int)) = true := by rw [he]; simp
        have hsz := HB.out.size
        have hfk : (f : Int) ≤ (k : Int) := by omega
        have hks : (k : Int) ≤ (s.size : Int) := by omega
        have hdk := HD.out
        clear hdr hsnoc he
        go_wp2_with (at_builtin; refine wp_strs rfl (.tmp 20) (.tmp 25) rfl rfl rfl (HO.out.alloc _) (litS1 _ _) (by simp; omega) (by simp; omega) ?_; intro v2 w2 o2 b2)
        go_roundw
        case rel =>
          refine ⟨k + 1, k + 1, _, by omega, Nat.le_refl _, by go_num, by go_num, HN, Lib.hid (by simp; omega), Lib.hid ?_, Lib.hid ((HB.out.alloc hsz _).trans b2)⟩
          rw [HX.out] at o2
          rw [List.map_append]
          exact o2
        case measure => simp [intOf]; omega
      · rw [if_neg he] at hsnoc
        have HN : Hid (cutTo c (s.data.toList.take (k + 1)) = (d, (s.data.toList.drop f).take (k + 1 - f))) := Lib.hid (by rw [hsnoc, hdr])
        have he2 : ((s[k].toNat : Int) == (c.toNat : Int)) = false := by
          simp only [beq_eq_false_iff_ne, ne_eq]
          intro h
          exact he (UInt8.toNat_inj.1 (by omega))
        have hdk := HD.out
        clear hdr hsnoc he
        go_wp2_with fail
        go_roundw
        case rel => exact ⟨k + 1, f, d, by omega, by omega, by go_num, rfl, HN, Lib.hid (by omega), HO, HB⟩
        case measure => simp [intOf]; omega
    · have hkn : k = s.size := by omega
      have HN : Hid (piecesB c s = d.map bs ++ [bs ((s.data.toList.drop f).take (s.size - f))]) := Lib.hid (by
        have h := HC.out
        rw [List.take_of_length_le (by rw [HL.out]; omega), hkn] at h
        unfold piecesB piecesL
        rw [h]
        simp)
      have HX := Lib.hid (extract_bs s f s.size)
      have hsz := HB.out.size
      have hfs : (f : Int) ≤ (s.size : Int) := by omega
      have hdk := HD.out
      clear hkn
      go_wp2_with (at_builtin; refine wp_strs rfl (.tmp 29) (.tmp 33) rfl rfl rfl (HO.out.alloc _) (litS1 _ _) (by simp; omega) (by simp; omega) ?_; intro v2 w2 o2 b2)
      go_ret
      refine ⟨_, rfl, ?_, (HB.out.alloc hsz _).trans b2⟩
      rw [HX.out] at o2
      rw [HN.out]
      exact o2

theorem l2L_hyphen (x : Int) : l2L x = wordB [45] x := by
  rw [wordB_eq, l2L]
  simp
theorem smallL_ge {x : Int} (h : 97 ≤ x) : smallL x = decide (x ≤ 122) := by simp [smallL, h]
theorem smallL_lt {x : Int} (h : ¬ 97 ≤ x) : smallL x = false := by simp [smallL, h]

set_option maxRecDepth 100000 in
set_option maxHeartbeats 2000000 in
theorem spec_NameValid_any (s : ByteArray) (w : World) (hs : s.size ≤ 1000000000000) :
    Calls Tryd.prog 48 #[.string s] w fun e w' => e = .returned (.bool (nameOk s)) ∧ Below w.heap.size w w' := by
  have hsp := fun W => spec_l2Cut_any s 46 W hs
  have hpos := pieces_pos 46 s
  have hnb : (piecesB 46 s).length ≤ 1000000000001 := by have h := pieces_le 46 s; omega
  have hmem : ∀ p, p ∈ piecesB 46 s → p.size ≤ 1000000000000 := fun p hp => by have := piecesB_size hp; omega
  obtain ⟨P, hP⟩ : ∃ P, piecesB 46 s = P := ⟨_, rfl⟩
  obtain ⟨n, hn⟩ : ∃ n, P.length = n := ⟨_, rfl⟩
  rw [hP] at hsp hpos hmem hnb
  rw [hn] at hpos hnb
  have HSP := Lib.hid hsp
  have HP := Lib.hid hP
  have HN := Lib.hid hn
  have HM := Lib.hid hmem
  clear hsp hP hn hmem
  go_enter Tryd.func48, Tryd.ntmps48
  go_wp2_with fail
  refine (HSP.out _).mono ?_
  rintro e w1 ⟨v1, rfl, o1, b1⟩
  obtain ⟨A, c, rfl, hc1, hc2, hA⟩ := o1.form
  obtain ⟨g, rfl, _, _, hs1⟩ := hA.resolve_left (fun h => by have := HN.out; rw [h] at this; simp at this; omega)
  rw [HN.out]
  rw [HN.out] at hc2
  have S1 := Lib.hid hs1
  have B1 := Lib.hid b1
  clear hs1 b1 o1 hA
  go_wp2_with fail
  go_loop [4] (fun i => ∃ k : Nat, k ≤ n ∧ i = .int .i64 k ∧ Hid (partsTo P k = true)) (fun i => n - (intOf i).toNat)
  case atStart => exact ⟨0, Nat.zero_le _, rfl, Lib.hid (partsTo_zero _)⟩
  case round =>
    obtain ⟨k, hk, rfl, HT⟩ := hrel
    by_cases hlt : k < n
    · have hi : (k : Int) < (n : Int) := by omega
      obtain ⟨p, hp⟩ : ∃ p, P[k]? = some p := ⟨P[k]'(by have := HN.out; omega), List.getElem?_eq_getElem _⟩
      have c1 := S1.out.cell (sv_get hp)
      rw [Nat.zero_add] at c1
      have hpm := HM.out p (List.mem_of_getElem? hp)
      have HPK := Lib.hid hp
      clear hp
      by_cases h0 : 0 < p.size
      · have h0' : ((p.size : Int) == 0) = false := beq_eq_false_iff_ne.2 (by omega)
        have hp0 : (0 : Int) < (p.size : Int) := by omega
        go_wp2_with fail
        go_loop [6] (fun i => ∃ j : Nat, j ≤ p.size ∧ i = .int .i64 j ∧ Hid (wordTo [45] p j = true)) (fun i => p.size - (intOf i).toNat)
        case atStart => exact ⟨0, Nat.zero_le _, rfl, Lib.hid (wordTo_zero _ _)⟩
        case round =>
          obtain ⟨j, hj, rfl, HW⟩ := hrel
          by_cases hjl : j < p.size
          · have hji : (j : Int) < (p.size : Int) := by omega
            have hnum := numsOf_get hjl
            cases h1 : l2L (p[j].toNat : Int)
            · have HF : Hid (nameOk s = false) := Lib.hid (nameOk_not (by rw [HP.out]; exact HPK.out) (by rw [partOk, wordL_not hjl (by rw [hnum, ← l2L_hyphen, h1]), Bool.and_false]))
              clear hnum
              go_wp2_with (go_at_call 59; refine (l2Letter_any _ _).mono ?_; rintro e w' ⟨rfl, rfl⟩; rw [h1])
              go_ret
              exact ⟨ret_bool HF.out.symm, B1.out⟩
            · have HS : Hid (wordTo [45] p (j + 1) = true) := Lib.hid (wordTo_succ HW.out (by rw [hnum, ← l2L_hyphen, h1]))
              clear hnum
              go_wp2_with (go_at_call 59; refine (l2Letter_any _ _).mono ?_; rintro e w' ⟨rfl, rfl⟩; rw [h1])
              go_round
              case rel => exact ⟨j + 1, by omega, by go_num, HS⟩
              case measure => simp [intOf]; omega
          · have HW2 : Hid (wordL [45] p = true) := Lib.hid (wordL_of (by omega) hj HW.out)
            have HS : Hid (partsTo P (k + 1) = true) := Lib.hid (partsTo_succ HT.out HPK.out (by rw [partOk, HW2.out, decide_eq_true h0]; rfl))
            go_wp2_with fail
            refine ⟨⟨k + 1, by omega, by go_num, HS⟩, ?_⟩
            simp [intOf]; omega
      · have HF : Hid (nameOk s = false) := Lib.hid (nameOk_not (by rw [HP.out]; exact HPK.out) (by rw [partOk, decide_eq_false h0]; rfl))
        obtain rfl := is_empty h0
        go_wp2_with fail
        go_ret
        exact ⟨ret_bool HF.out.symm, B1.out⟩
    · have hkn : k = n := by omega
      subst hkn
      have HE : Hid (nameOk s = (decide (s.size ≤ 20) && smallL (lastB P))) := Lib.hid (by
        have h := nameOk_of (s := s) (n := k) (by rw [HP.out]; exact HN.out) (by rw [HP.out]; exact HT.out)
        rwa [HP.out] at h)
      obtain ⟨p, hp⟩ : ∃ p, P[k - 1]? = some p := ⟨P[k - 1]'(by have := HN.out; omega), List.getElem?_eq_getElem _⟩
      have c1 := S1.out.cell (sv_get hp)
      rw [Nat.zero_add] at c1
      have hpo : 0 < p.size := by
        have h := HT.out
        unfold partsTo at h
        rw [List.all_eq_true] at h
        have h2 := h p (List.mem_of_getElem? (i := k - 1) (by rw [List.getElem?_take, if_pos (by omega)]; exact hp))
        rw [partOk, Bool.and_eq_true, decide_eq_true_eq] at h2
        exact h2.1
      have HLB : Hid (lastB P = (p[0].toNat : Int)) := Lib.hid (by rw [lastB_get HN.out hp, numsOf_get hpo])
      have hk0 : (k : Int) - 1 < (k : Int) := by omega
      have hk1 : (1 : Int) ≤ (k : Int) := by omega
      have hk2 : ((k : Int) - 1).toNat = k - 1 := by omega
      have hp0 : (0 : Int) < (p.size : Int) := by omega
      clear hp
      by_cases h20 : s.size ≤ 20
      · have h20' : (s.size : Int) ≤ 20 := by omega
        by_cases h97 : 97 ≤ (p[0].toNat : Int)
        · have E97 := Lib.hid (smallL_ge h97)
          go_wp2_with fail
          go_ret
          exact ⟨ret_bool (by rw [HE.out, HLB.out, decide_eq_true h20, E97.out]; rfl), B1.out⟩
        · have E97 := Lib.hid (smallL_lt h97)
          go_wp2_with fail
          go_ret
          exact ⟨ret_bool (by rw [HE.out, HLB.out, decide_eq_true h20, E97.out]; rfl), B1.out⟩
      · have h20' : (20 : Int) < (s.size : Int) := by omega
        go_wp2_with fail
        go_ret
        exact ⟨ret_bool (by rw [HE.out, decide_eq_false h20]; rfl), B1.out⟩
end Go.Proofs.YtpcflkdeoafpeaaDoor

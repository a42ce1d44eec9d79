/-
  Whether a text is a name: the program's NameValid and the reference's l2Cut and NameValid return the same plain functions. Conditions: the text has fewer than 2^32 - 15 bytes.
  The reference's l2Cut and NameValid return the plain functions of the text. Conditions: the text has fewer than 2^32 - 15 bytes.
-/
import Derived.Test.YtjnnmihbkieblaaDoorSplit
import Derived.Test.YtjnnmihbkieblaaDoorOwnStr
namespace Go.Proofs.YtjnnmihbkieblaaDoor
open Go.RowKit

theorem not_empty {u : ByteArray} (h : 0 < u.size) : u.toList.isEmpty = false ∧ ¬ u.toList = [] := by
  have h2 : ¬ u.toList = [] := by
    rw [ByteArray.toList_eq]
    intro e
    have : u.data.toList.length = 0 := by rw [e]; rfl
    have h3 : u.data.toList.length = u.size := by simp
    omega
  exact ⟨by simpa using h2, h2⟩
theorem is_empty {u : ByteArray} (h : ¬ 0 < u.size) : u = ByteArray.empty := ByteArray.ext (Array.eq_empty_of_size_eq_zero (by show u.size = 0; omega))

/-- strings.Split, told by what lies in the new block. -/
theorem Split_seg (s : ByteArray) (c : UInt8) (w : World) (hs : s.size < 4294967281) :
    Calls Tryd.prog 30 #[.string s, .string ⟨#[c]⟩] w fun e w' => e = .returned (.slice (some ⟨w.heap.size, 0, none⟩) (piecesB c s).length (piecesB c s).length) ∧ Seg w' 9 w.heap.size 0 (sv (piecesB c s)) ∧ Below w.heap.size w w' := by
  refine (Split_any s c w hs).mono ?_
  rintro e w' ⟨rfl, rfl⟩
  exact ⟨rfl, strs_at rfl, (Below.refl _ _).alloc (Nat.le_refl _) _⟩

theorem hyphens : numsOf (⟨#[45]⟩ : ByteArray) = [45] := by rfl
theorem pieces_pos (c : UInt8) (s : ByteArray) : 0 < (piecesB c s).length := by rw [piecesB_length]; omega
theorem pieces_le (c : UInt8) (s : ByteArray) : (piecesB c s).length ≤ s.size + 1 := by
  rw [piecesB_length]
  have h := List.count_le_length (a := c) (l := s.data.toList)
  have e : s.data.toList.length = s.size := by
    show s.data.toList.length = s.data.size
    simp
  omega
theorem lastB_get {ps : List ByteArray} {n : Nat} {p : ByteArray} (hn : ps.length = n) (h : ps[n - 1]? = some p) : lastB ps = (numsOf p).getD 0 0 := by
  rw [lastB, hn]
  simp [List.getD, h]

set_option maxRecDepth 100000 in
set_option maxHeartbeats 2000000 in
theorem impl_NameValid_any (s : ByteArray) (w : World) (hs : s.size < 4294967281) :
    Calls Tryd.prog 33 #[.string s] w fun e w' => e = .returned (.bool (nameOk s)) ∧ Below w.heap.size w w' := by
  have hsp := fun W => Split_seg s 46 W hs
  have hpos := pieces_pos 46 s
  have hnb : (piecesB 46 s).length ≤ 4294967282 := by have h := pieces_le 46 s; omega
  have hmem : ∀ p, p ∈ piecesB 46 s → p.size ≤ maxLen := fun p hp => by have := piecesB_size hp; unfold maxLen; omega
  obtain ⟨P, hP⟩ : ∃ P, piecesB 46 s = P := ⟨_, rfl⟩
  obtain ⟨n, hn⟩ : ∃ n, P.length = n := ⟨_, rfl⟩
  rw [hP] at hsp hpos hmem hnb
  rw [hn] at hsp hpos hnb
  have HSP := Lib.hid hsp
  have HP := Lib.hid hP
  have HN := Lib.hid hn
  have HM := Lib.hid hmem
  clear hsp hP hn hmem
  go_enter Tryd.func33, Tryd.ntmps33
  go_wp2_with (go_at_call 30; refine (HSP.out _).mono ?_; rintro e w1 ⟨rfl, hs1, hb1⟩)
  have S1 := Lib.hid hs1
  have B1 := Lib.hid hb1
  obtain ⟨g, hg⟩ : ∃ g, w.heap.size = g := ⟨_, rfl⟩
  rw [hg] at S1
  change Code.wp _ _ _ _ _
  rw [hg]
  clear hs1 hb1 hg
  go_loop [10] (fun i => ∃ k : Nat, k ≤ n ∧ i = .int .i64 k ∧ Hid (partsTo P k = true)) (fun i => n - (intOf i).toNat)
  case atStart => exact ⟨0, Nat.zero_le _, rfl, Lib.hid (partsTo_zero _)⟩
  case round =>
    obtain ⟨k, hk, rfl, HT⟩ := hrel
    by_cases hlt : k < n
    · have hi : (k : Int) < (n : Int) := by omega
      obtain ⟨p, hp⟩ : ∃ p, P[k]? = some p := ⟨P[k]'(by have := HN.out; omega), List.getElem?_eq_getElem _⟩
      have c1 := S1.out.cell (sv_get hp)
      rw [Nat.zero_add] at c1
      have hpm := HM.out p (List.mem_of_getElem? hp)
      have HPM := Lib.hid hpm
      have HPK := Lib.hid hp
      clear hp hpm
      by_cases h0 : 0 < p.size
      · obtain ⟨e1, e2⟩ := not_empty h0
        cases h1 : wordL [45] p
        · have HF : Hid (nameOk s = false) := Lib.hid (nameOk_not (by rw [HP.out]; exact HPK.out) (by rw [partOk, h1, Bool.and_false]))
          go_wp2_with (go_at_call 42; refine (consists_any p ⟨#[45]⟩ _ HPM.out).mono ?_; rintro e w' ⟨rfl, rfl⟩; rw [hyphens, h1])
          go_ret
          exact ⟨ret_bool HF.out.symm, B1.out⟩
        · have HS : Hid (partsTo P (k + 1) = true) := Lib.hid (partsTo_succ HT.out HPK.out (by rw [partOk, h1, decide_eq_true h0]; rfl))
          go_wp2_with (go_at_call 42; refine (consists_any p ⟨#[45]⟩ _ HPM.out).mono ?_; rintro e w' ⟨rfl, rfl⟩; rw [hyphens, h1])
          go_round
          case rel => exact ⟨k + 1, by omega, by go_num, HS⟩
          case measure => simp [intOf]; omega
      · have HF : Hid (nameOk s = false) := Lib.hid (nameOk_not (by rw [HP.out]; exact HPK.out) (by rw [partOk, decide_eq_false h0]; rfl))
        obtain rfl := is_empty h0
        go_wp2_with fail
        go_ret
        exact ⟨ret_bool HF.out.symm, B1.out⟩
    · have hkn : k = n := by omega
      subst hkn
      have HE : Hid (nameOk s = (decide (s.size ≤ 20) && smallL (lastB P))) := Lib.hid (by
        have h := nameOk_of (s := s) (n := k) (by rw [HP.out]; exact HN.out) (by rw [HP.out]; exact HT.out)
        rwa [HP.out] at h)
      by_cases h20 : s.size ≤ 20
      · have h20' : (s.size : Int) ≤ 20 := by omega
        obtain ⟨p, hp⟩ : ∃ p, P[k - 1]? = some p := ⟨P[k - 1]'(by have := HN.out; omega), List.getElem?_eq_getElem _⟩
        have c1 := S1.out.cell (sv_get hp)
        rw [Nat.zero_add] at c1
        have hpo : 0 < p.size := by
          have h := HT.out
          unfold partsTo at h
          rw [List.all_eq_true] at h
          have h2 := h p (List.mem_of_getElem? (i := k - 1) (by rw [List.getElem?_take, if_pos (by omega)]; exact hp))
          rw [partOk, Bool.and_eq_true, decide_eq_true_eq] at h2
          exact h2.1
        have HL : Hid (lastB P = (p[0].toNat : Int)) := Lib.hid (by rw [lastB_get HN.out hp, numsOf_get hpo])
        have hk0 : (k : Int) - 1 < (k : Int) := by omega
        have hk1 : (1 : Int) ≤ (k : Int) := by omega
        have hk2 : ((k : Int) - 1).toNat = k - 1 := by omega
        have hp0 : (0 : Int) < (p.size : Int) := by omega
        clear hp
        go_wp2_with (go_at_call 43; refine (isLetter_any _ _).mono ?_; rintro e w' ⟨rfl, rfl⟩)
        go_ret
        exact ⟨ret_bool (by rw [HE.out, HL.out, decide_eq_true h20]; rfl), B1.out⟩
      · have h20' : (20 : Int) < (s.size : Int) := by omega
        go_wp2_with fail
        go_ret
        exact ⟨ret_bool (by rw [HE.out, decide_eq_false h20]; rfl), B1.out⟩
end Go.Proofs.YtjnnmihbkieblaaDoor
namespace Go.Proofs.YtjnnmihbkieblaaDoor
open Go.RowKit

/-- A part of a text, by its bytes. -/
theorem extract_bs (s : ByteArray) (f k : Nat) : s.extract f k = bs ((s.data.toList.drop f).take (k - f)) := by
  apply ByteArray.ext
  apply Array.toList_inj.1
  show (s.extract f k).data.toList = ((s.data.toList.drop f).take (k - f)).toArray.toList
  rw [ByteArray.data_extract, Array.toList_extract]
theorem drop_take_snoc (L : List UInt8) {f k : Nat} (hf : f ≤ k) (hk : k < L.length) : (L.drop f).take (k + 1 - f) = (L.drop f).take (k - f) ++ [L[k]] := by
  rw [show k + 1 - f = (k - f) + 1 by omega, List.take_succ_eq_append_getElem (by simp; omega)]
  simp
  congr 1
  omega
theorem OwnS.nil0 {W : World} {g base : Nat} (hg : g = W.heap.size) (hb : base ≤ W.heap.size) : OwnS (W.alloc (.cells #[] 9)) base (.slice (some ⟨g, 0, none⟩) 0 0) [] := by
  subst hg
  exact OwnS.lit W [] base hb (by simp)

theorem l2L_hyphen (x : Int) : l2L x = wordB [45] x := by
  rw [wordB_eq, l2L]
  simp
theorem smallL_ge {x : Int} (h : 97 ≤ x) : smallL x = decide (x ≤ 122) := by simp [smallL, h]
theorem smallL_lt {x : Int} (h : ¬ 97 ≤ x) : smallL x = false := by simp [smallL, h]

end Go.Proofs.YtjnnmihbkieblaaDoor

/-
  Whether a text begins with another one, and where it is cut: HasPrefix, CutPrefix, Cut of the library, l14Begins, l14Word of the reference. Conditions: none.
-/
import Derived.Test.YtjnnmihbkieblaaDoorAnsT
import Derived.Test.YtjnnmihbkieblaaDoorSplit
import Derived.BigQuiet
namespace Go.Proofs.YtjnnmihbkieblaaDoor
open Go.RowKit

theorem stringslite_HasPrefix_any (s p : ByteArray) (w : World) : Calls Tryd.prog 28 #[.string s, .string p] w fun e w' => e = .returned (.bool (beg s p)) ∧ w' = w := by
  rw [← beg_raw]
  go_enter Tryd.func28, Tryd.ntmps28
  go_wp2
  · rename_i h
    go_ret
    refine ⟨?_, rfl⟩
    show Ending.returned (Value.bool ((s.extract 0 p.size).toList == p.toList)) = _
    simp [h]
  · rename_i h
    go_ret
    refine ⟨?_, rfl⟩
    show Ending.returned (Value.bool false) = _
    simp [h]
theorem HasPrefix_any (s p : ByteArray) (w : World) : Calls Tryd.prog 18 #[.string s, .string p] w fun e w' => e = .returned (.bool (beg s p)) ∧ w' = w := by
  go_enter Tryd.func18, Tryd.ntmps18
  go_wp2_with (go_at_call 28; refine (stringslite_HasPrefix_any s p _).mono ?_; rintro e w' ⟨rfl, hw⟩; rw [hw])
  go_ret
  exact ⟨rfl, rfl⟩

/-- The rest behind a beginning. -/
def behind (s p : ByteArray) : ByteArray := s.extract p.size s.size
theorem behind_append (p r : ByteArray) : behind (p ++ r) p = r := by
  unfold behind
  exact ByteArray.extract_append_eq_right rfl (by rw [ByteArray.size_append])
theorem beg_le {s p : ByteArray} (h : beg s p = true) : p.size ≤ s.size := by
  obtain ⟨t, rfl⟩ := beg_split h
  rw [ByteArray.size_append]
  omega
theorem CutPrefix_yes (s p : ByteArray) (w : World) (h : beg s p = true) : Calls Tryd.prog 16 #[.string s, .string p] w fun e w' => e = .returned (.tuple #[.string (behind s p), .bool true]) ∧ ∃ n, w' = w.drewN n := by
  have hle := beg_le h
  have hR : s.extract p.size s.size = behind s p := rfl
  obtain ⟨R, hRR⟩ : ∃ R, behind s p = R := ⟨_, rfl⟩
  rw [hRR] at hR ⊢
  obtain ⟨z, hz⟩ : ∃ z, s.size = z := ⟨_, rfl⟩
  obtain ⟨y, hy⟩ : ∃ y, p.size = y := ⟨_, rfl⟩
  rw [hz, hy] at hle hR
  have hyz : (y : Int) ≤ (z : Int) := by omega
  have hy0 : (0 : Int) ≤ (y : Int) := by omega
  have lite : ∀ w : World, Calls Tryd.prog 26 #[.string s, .string p] w fun e w' => e = .returned (.tuple #[.string R, .bool true]) ∧ ∃ n, w' = w.drewN n := by
    intro w
    have HH := Lib.hid h
    clear h hRR
    go_enter Tryd.func26, Tryd.ntmps26
    go_wp2_with (go_at_call 28; refine (stringslite_HasPrefix_any s p _).mono ?_; rintro e w' ⟨rfl, rfl⟩; rw [HH.out])
    go_ret2
    exact ⟨rfl, 0, rfl⟩
  clear hRR hR hle hyz hy0 hy hz h
  go_enter Tryd.func16, Tryd.ntmps16
  go_wp2_with (go_at_call 26; refine (lite _).mono ?_; rintro e w' ⟨rfl, n, rfl⟩)
  go_ret2
  exact ⟨rfl, n, rfl⟩
theorem CutPrefix_no (s p : ByteArray) (w : World) (h : beg s p = false) : Calls Tryd.prog 16 #[.string s, .string p] w fun e w' => e = .returned (.tuple #[.string s, .bool false]) ∧ ∃ n, w' = w.drewN n := by
  have lite : ∀ w : World, Calls Tryd.prog 26 #[.string s, .string p] w fun e w' => e = .returned (.tuple #[.string s, .bool false]) ∧ ∃ n, w' = w.drewN n := by
    intro w
    have HH := Lib.hid h
    clear h
    go_enter Tryd.func26, Tryd.ntmps26
    go_wp2_with (go_at_call 28; refine (stringslite_HasPrefix_any s p _).mono ?_; rintro e w' ⟨rfl, rfl⟩; rw [HH.out])
    go_ret2
    exact ⟨rfl, 0, rfl⟩
  clear h
  go_enter Tryd.func16, Tryd.ntmps16
  go_wp2_with (go_at_call 26; refine (lite _).mono ?_; rintro e w' ⟨rfl, n, rfl⟩)
  go_ret2
  exact ⟨rfl, n, rfl⟩

theorem index_hit {s a b : ByteArray} {c : UInt8} (hs : s.data.toList = a.data.toList ++ c :: b.data.toList) (ha : c ∉ a.data.toList) : Lib.indexByte s.data.toList c = (a.size : Nat) := by
  have hl : a.data.toList.length = a.size := by
    show a.data.toList.length = a.data.size
    simp
  have hm : c ∈ s.data.toList := by rw [hs]; simp
  have hne : Lib.indexByte s.data.toList c ≠ -1 := fun e => by
    obtain ⟨j, hj, hjc⟩ := List.getElem_of_mem hm
    exact Lib.indexByte_none e j (by rw [List.getElem?_eq_getElem hj, hjc])
  have hg := Lib.indexByte_ge s.data.toList c
  obtain ⟨i, hi⟩ : ∃ i : Nat, Lib.indexByte s.data.toList c = i := ⟨(Lib.indexByte s.data.toList c).toNat, by omega⟩
  obtain ⟨h1, h2⟩ := Lib.indexByte_some hi
  rw [hi]
  rcases Nat.lt_trichotomy i a.size with h | h | h
  · rw [hs, List.getElem?_append_left (by omega)] at h1
    exact absurd (List.mem_of_getElem? h1) ha
  · rw [h]
  · refine absurd ?_ (h2 a.size h)
    rw [hs, List.getElem?_append_right (by omega), hl]
    simp
theorem index_none {s : ByteArray} {c : UInt8} (h : c ∉ s.data.toList) : Lib.indexByte s.data.toList c = -1 := by
  have hg := Lib.indexByte_ge s.data.toList c
  by_cases hne : Lib.indexByte s.data.toList c = -1
  · exact hne
  · obtain ⟨i, hi⟩ : ∃ i : Nat, Lib.indexByte s.data.toList c = i := ⟨(Lib.indexByte s.data.toList c).toNat, by omega⟩
    exact absurd (List.mem_of_getElem? (Lib.indexByte_some hi).1) h
theorem cut_left {s a b : ByteArray} {c : UInt8} (hs : s.data.toList = a.data.toList ++ c :: b.data.toList) : s.extract 0 a.size = a ∧ s.extract (a.size + 1) s.size = b ∧ s.size = a.size + 1 + b.size := by
  have e : s = a ++ ⟨#[c]⟩ ++ b := by
    apply ByteArray.ext
    apply Array.ext'
    rw [hs]
    simp [ByteArray.data_append]
  subst e
  have h1 : (⟨#[c]⟩ : ByteArray).size = 1 := rfl
  refine ⟨?_, ?_, by rw [ByteArray.size_append, ByteArray.size_append, h1]⟩
  · rw [ByteArray.append_assoc]
    exact ByteArray.extract_append_eq_left rfl
  · exact ByteArray.extract_append_eq_right (by rw [ByteArray.size_append, h1]) (by rw [ByteArray.size_append])
/-- A text is cut at its first letter of that kind. -/
theorem Cut_yes (s a b : ByteArray) (c : UInt8) (w : World) (hs : s.data.toList = a.data.toList ++ c :: b.data.toList) (ha : c ∉ a.data.toList) (hz : s.size ≤ 1000000000000) :
    Calls Tryd.prog 17 #[.string s, .string ⟨#[c]⟩] w fun e w' => e = .returned (.tuple #[.string a, .string b, .bool true]) ∧ ∃ n, w' = w.drewN n := by
  have lite : ∀ w : World, Calls Tryd.prog 27 #[.string s, .string ⟨#[c]⟩] w fun e w' => e = .returned (.tuple #[.string a, .string b, .bool true]) ∧ ∃ n, w' = w.drewN n := by
    intro w
    have HI := Lib.hid (index_hit hs ha)
    obtain ⟨h1, h2, h3⟩ := cut_left hs
    obtain ⟨k, hk⟩ : ∃ k, a.size = k := ⟨_, rfl⟩
    obtain ⟨z, hzz⟩ : ∃ z, s.size = z := ⟨_, rfl⟩
    rw [hk] at h1 h2 h3 HI
    rw [hzz] at h2 h3 hz
    have hk0 : (0 : Int) ≤ (k : Int) := by omega
    have hk1 : (k : Int) ≤ (z : Int) := by omega
    have hk2 : (k : Int) + 1 ≤ (z : Int) := by omega
    have hk3 : (0 : Int) ≤ (k : Int) + 1 := by omega
    have hk4 : IntKind.i64.wrap ((k : Int) + 1) = (k : Int) + 1 := by rw [IntKind.wrap_i64]; omega
    have hk5 : ((k : Int) + 1).toNat = k + 1 := by omega
    clear hs ha hk h3 hz
    go_enter Tryd.func27, Tryd.ntmps27
    go_wp2_with (go_at_call 36; refine (stringslite_Index_any s c _).mono ?_; rintro e w' ⟨rfl, rfl⟩; rw [HI.out])
    go_quiet (fail)
    go_wp2_with fail
    go_ret3
    exact ⟨rfl, _, rfl⟩
  clear hs ha hz
  go_enter Tryd.func17, Tryd.ntmps17
  go_wp2_with (go_at_call 27; refine (lite _).mono ?_; rintro e w' ⟨rfl, n, rfl⟩)
  go_ret3
  exact ⟨rfl, n, rfl⟩
theorem Cut_no (s : ByteArray) (c : UInt8) (w : World) (ha : c ∉ s.data.toList) :
    Calls Tryd.prog 17 #[.string s, .string ⟨#[c]⟩] w fun e w' => e = .returned (.tuple #[.string s, .string ⟨#[]⟩, .bool false]) ∧ ∃ n, w' = w.drewN n := by
  have lite : ∀ w : World, Calls Tryd.prog 27 #[.string s, .string ⟨#[c]⟩] w fun e w' => e = .returned (.tuple #[.string s, .string ⟨#[]⟩, .bool false]) ∧ ∃ n, w' = w.drewN n := by
    intro w
    have HI := Lib.hid (index_none ha)
    clear ha
    go_enter Tryd.func27, Tryd.ntmps27
    go_wp2_with (go_at_call 36; refine (stringslite_Index_any s c _).mono ?_; rintro e w' ⟨rfl, rfl⟩; rw [HI.out])
    go_ret3
    exact ⟨rfl, 0, rfl⟩
  clear ha
  go_enter Tryd.func17, Tryd.ntmps17
  go_wp2_with (go_at_call 27; refine (lite _).mono ?_; rintro e w' ⟨rfl, n, rfl⟩)
  go_ret3
  exact ⟨rfl, n, rfl⟩
/-- A text with a blank, or without one. -/
theorem cut_cases (l : List UInt8) (c : UInt8) : c ∉ l ∨ ∃ a b : ByteArray, l = a.data.toList ++ c :: b.data.toList ∧ c ∉ a.data.toList := by
  by_cases h : c ∈ l
  · obtain ⟨a, b, e, ha⟩ := List.eq_append_cons_of_mem h
    exact .inr ⟨⟨a.toArray⟩, ⟨b.toArray⟩, by simpa using e, by simpa using ha⟩
  · exact .inl h
end Go.Proofs.YtjnnmihbkieblaaDoor

/-
  Strings as lists of numbers: which of them are users, which two are a login; and lists that are filled place by place. Plain lists, no walk. Conditions: none.
  Single letters, and whether a text is made of them: the program's isLetter, isDigit, consists, the library's IndexByte and the reference's l2Letter return plain functions. Conditions: none but that strings are strings of the model.
  The pieces of a text between the instances of one byte, as a plain function; what strings.Split makes of it is the same. Plain lists, no walk. Conditions: none.
-/
import Derived.Test.YtpcflkdeoafpeaaDoorRs
import Derived.Laws.BytesArg
import Derived.Lib.Bytealg
import Derived.Laws.StandIn
import Derived.Deep.RegionWith
import Derived.Lib.Split
import Derived.Lib.SplitLaws
import Derived.Lib.IndexBytes
namespace Go.Proofs.YtpcflkdeoafpeaaDoor
open Go.RowKit

/-- The string's bytes as numbers. -/
def numsOf (s : ByteArray) : List Int := s.data.toList.map fun c => (c.toNat : Int)
theorem numsOf_length (s : ByteArray) : (numsOf s).length = s.size := by simp [numsOf]
theorem numsOf_bytes (s : ByteArray) : ∀ x ∈ numsOf s, 0 ≤ x ∧ x ≤ 255 := by
  intro x hx
  unfold numsOf at hx
  rw [List.mem_map] at hx
  obtain ⟨c, _, rfl⟩ := hx
  have := c.toNat_lt
  omega
theorem numsOf_str {zs : List Int} (h : ∀ x ∈ zs, 0 ≤ x ∧ x ≤ 255) : numsOf (strOfNums zs) = zs := by
  unfold numsOf
  rw [strOfNums_data, List.map_map]
  conv => rhs; rw [← List.map_id zs]
  apply List.map_congr_left
  intro x hx
  have := h x hx
  simp
  omega
theorem str_numsOf (s : ByteArray) : strOfNums (numsOf s) = s := by
  apply ByteArray.ext
  apply Array.toList_inj.1
  rw [strOfNums_data]
  unfold numsOf
  rw [List.map_map]
  conv => rhs; rw [← List.map_id s.data.toList]
  apply List.map_congr_left
  intro x _
  simp
theorem numsOf_get {s : ByteArray} {j : Nat} (h : j < s.size) : (numsOf s).getD j 0 = (s[j].toNat : Int) := by
  have hl : j < s.data.toList.length := by simpa using h
  simp [numsOf, List.getD, h]
  rfl
theorem numsOf_nil {s : ByteArray} (h : s.size = 0) : numsOf s = [] := List.eq_nil_of_length_eq_zero (by rw [numsOf_length, h])
theorem numsOf_inj {s t : ByteArray} (h : numsOf s = numsOf t) : s = t := by rw [← str_numsOf s, h, str_numsOf]
theorem str_length {zs : List Int} : (strOfNums zs).size = zs.length := strOfNums_size zs

/-- A small letter or a digit, or one of further ones. -/
def wordB (f : List Int) (x : Int) : Bool := (decide (97 ≤ x) && decide (x ≤ 122)) || (decide (48 ≤ x) && decide (x ≤ 57)) || decide (x ∈ f)
def wordTo (f : List Int) (s : ByteArray) (k : Nat) : Bool := (List.range k).all fun j => wordB f ((numsOf s).getD j 0)
def wordL (f : List Int) (s : ByteArray) : Bool := wordTo f s s.size
theorem wordTo_zero (f : List Int) (s : ByteArray) : wordTo f s 0 = true := rfl
theorem wordTo_succ {f : List Int} {s : ByteArray} {k : Nat} (h : wordTo f s k = true) (h1 : wordB f ((numsOf s).getD k 0) = true) : wordTo f s (k + 1) = true := by
  unfold wordTo at *
  rw [List.range_succ, List.all_append, h]
  simp only [List.all_cons, List.all_nil, h1]
  rfl
theorem wordL_not {f : List Int} {s : ByteArray} {k : Nat} (hk : k < s.size) (h : wordB f ((numsOf s).getD k 0) = false) : wordL f s = false := by
  unfold wordL wordTo
  rw [List.all_eq_false]
  exact ⟨k, List.mem_range.2 hk, by rw [h]; simp⟩
theorem wordL_of {f : List Int} {s : ByteArray} {k : Nat} (hk : s.size ≤ k) (hk2 : k ≤ s.size) (h : wordTo f s k = true) : wordL f s = true := by
  have : k = s.size := by omega
  subst this
  exact h
theorem wordL_mem {f : List Int} {s : ByteArray} (h : wordL f s = true) : ∀ x ∈ numsOf s, wordB f x = true := by
  intro x hx
  unfold wordL wordTo at h
  rw [List.all_eq_true] at h
  obtain ⟨j, hj, rfl⟩ := List.getElem_of_mem hx
  have h1 := h j (List.mem_range.2 (by rw [numsOf_length] at hj; exact hj))
  simpa [List.getD, hj] using h1

/-- A user: small letters and digits, at most eight. -/
def userOk (s : ByteArray) : Bool := decide (s.size ≤ 8) && wordL [] s
def loginOk (u v : ByteArray) : Bool := decide (0 < u.size) && decide (0 < v.size) && userOk u && userOk v
/-- The bytes of a login. -/
def loginB (u v : ByteArray) : List Int := 1 :: (u.size : Int) :: (numsOf u ++ (v.size : Int) :: numsOf v)
def loginL (u v : ByteArray) : List Int := if loginOk u v = true then loginB u v else []
theorem loginL_ok {u v : ByteArray} (h : loginOk u v = true) : loginL u v = loginB u v := by simp [loginL, h]
theorem loginL_not {u v : ByteArray} (h : loginOk u v = false) : loginL u v = [] := by simp [loginL, h]
theorem loginB_length (u v : ByteArray) : (loginB u v).length = 3 + u.size + v.size := by
  simp [loginB, numsOf_length]
  omega
theorem loginOk_parts {u v : ByteArray} (h : loginOk u v = true) : 0 < u.size ∧ 0 < v.size ∧ u.size ≤ 8 ∧ v.size ≤ 8 := by
  simp [loginOk, userOk] at h
  omega

/-- A list whose first k places are filled. -/
def fillTo (L : List Int) (k : Nat) : List Int := L.take k ++ List.replicate (L.length - k) 0
theorem fillTo_zero (L : List Int) : fillTo L 0 = List.replicate L.length 0 := by simp [fillTo]
theorem fillTo_length {L : List Int} {k : Nat} (h : k ≤ L.length) : (fillTo L k).length = L.length := by
  simp [fillTo]
  omega
theorem fillTo_all {L : List Int} {k : Nat} (h : L.length ≤ k) : fillTo L k = L := by
  simp [fillTo, List.take_of_length_le h, Nat.sub_eq_zero_of_le h]
theorem fillTo_step {L : List Int} {j : Nat} (h : j < L.length) : (fillTo L j).set j (L.getD j 0) = fillTo L (j + 1) := by
  unfold fillTo
  have hl : (L.take j).length = j := by simp; omega
  rw [List.set_append_right j _ (by rw [hl]; exact Nat.le_refl j), hl, Nat.sub_self]
  have he : L.length - j = (L.length - (j + 1)) + 1 := by omega
  rw [he, List.replicate_succ, List.set_cons_zero, List.take_succ_eq_append_getElem h, List.append_assoc]
  simp [List.getD, h]
/-- The same from behind. -/
def fillFrom (L : List Int) (k : Nat) : List Int := List.replicate k 0 ++ L.drop k
theorem fillFrom_length {L : List Int} {k : Nat} (h : k ≤ L.length) : (fillFrom L k).length = L.length := by
  simp [fillFrom]
  omega
theorem fillFrom_zero (L : List Int) : fillFrom L 0 = L := by simp [fillFrom]
theorem fillFrom_all (L : List Int) : fillFrom L L.length = List.replicate L.length 0 := by simp [fillFrom]
theorem fillFrom_step {L : List Int} {j : Nat} (h : j < L.length) : (fillFrom L (j + 1)).set j (L.getD j 0) = fillFrom L j := by
  unfold fillFrom
  rw [List.replicate_succ', List.append_assoc, List.set_append_right j _ (by simp), List.length_replicate, Nat.sub_self]
  rw [List.singleton_append, List.set_cons_zero, List.drop_eq_getElem_cons h]
  simp [List.getD, h]
end Go.Proofs.YtpcflkdeoafpeaaDoor
namespace Go.Proofs.YtpcflkdeoafpeaaDoor
open Go.RowKit

def isL (x : Int) : Bool := decide (97 ≤ x) && decide (x ≤ 122)
def isD (x : Int) : Bool := decide (48 ≤ x) && decide (x ≤ 57)
theorem wordB_eq (f : List Int) (x : Int) : wordB f x = (isL x || isD x || decide (x ∈ f)) := rfl

theorem isLetter_any (x : Int) (w : World) : Calls Tryd.prog 62 #[.int .u8 x] w fun e w' => e = .returned (.bool (isL x)) ∧ w = w' := by
  by_cases h1 : 97 ≤ x
  · go_enter Tryd.func62, Tryd.ntmps62
    go_wp2
    go_ret
    exact ⟨ret_bool (by simp [isL, h1]), rfl⟩
  · go_enter Tryd.func62, Tryd.ntmps62
    go_wp2
    go_ret
    exact ⟨ret_bool (by simp [isL]; omega), rfl⟩
theorem isDigit_any (x : Int) (w : World) : Calls Tryd.prog 68 #[.int .u8 x] w fun e w' => e = .returned (.bool (isD x)) ∧ w = w' := by
  by_cases h1 : 48 ≤ x
  · go_enter Tryd.func68, Tryd.ntmps68
    go_wp2
    go_ret
    exact ⟨ret_bool (by simp [isD, h1]), rfl⟩
  · go_enter Tryd.func68, Tryd.ntmps68
    go_wp2
    go_ret
    exact ⟨ret_bool (by simp [isD]; omega), rfl⟩

set_option maxRecDepth 100000 in
theorem stringslite_IndexByte_any (s : ByteArray) (c : Int) (w : World) : Calls Tryd.prog 75 #[.string s, .int .u8 c] w fun e w' => e = .returned (.int .i64 (Lib.indexByte s.data.toList c.toNat.toUInt8)) ∧ w = w' := by
  go_enter Tryd.func75, Tryd.ntmps75
  go_wp2
  rw [run_callFunc_extern Tryd.func87 (by kernel_rfl) (by kernel_rfl) (by kernel_rfl) (e := Extern.BytealgIndexByte.indexByte) (by kernel_rfl), Lib.run_indexByteString]
  simp only [Result.andThen]
  rw [Oper.upon_value]
  go_wp2
  go_ret
  exact ⟨rfl, rfl⟩
theorem IndexByte_any (s : ByteArray) (c : Int) (w : World) : Calls Tryd.prog 69 #[.string s, .int .u8 c] w fun e w' => e = .returned (.int .i64 (Lib.indexByte s.data.toList c.toNat.toUInt8)) ∧ w = w' := by
  go_enter Tryd.func69, Tryd.ntmps69
  go_wp2_with fail
  refine (stringslite_IndexByte_any _ _ _).mono ?_
  rintro e w' ⟨rfl, rfl⟩
  go_wp2_with fail
  go_ret
  exact ⟨rfl, rfl⟩
theorem indexByte_iff : ∀ (l : List UInt8) (c : UInt8), decide (Lib.indexByte l c < 0) = !decide (c ∈ l)
  | [], c => by simp [Lib.indexByte]
  | b :: l, c => by
    have ih := indexByte_iff l c
    have hg := Lib.indexByte_ge l c
    unfold Lib.indexByte
    by_cases h : b = c
    · subst h
      simp
    · have h2 : ¬ c = b := fun e => h e.symm
      have h3 : (b == c) = false := by simpa using h
      have h6 : decide (c ∈ b :: l) = decide (c ∈ l) := by rw [decide_eq_decide, List.mem_cons]; simp [h2]
      rw [h3, h6, ← ih]
      simp only [Bool.false_eq_true, if_false]
      by_cases h4 : Lib.indexByte l c = -1
      · rw [h4]; rfl
      · have h5 : (Lib.indexByte l c == -1) = false := by simpa using h4
        rw [h5]
        simp only [Bool.false_eq_true, if_false]
        rw [decide_eq_decide]
        omega
/-- The index that strings.IndexByte returns. -/
def idxI (f : ByteArray) (x : Int) : Int := Lib.indexByte f.data.toList x.toNat.toUInt8
theorem idxI_iff {f : ByteArray} {x : Int} (h : 0 ≤ x ∧ x ≤ 255) : decide (idxI f x < 0) = !decide (x ∈ numsOf f) := by
  unfold idxI
  rw [indexByte_iff]
  congr 1
  rw [decide_eq_decide]
  unfold numsOf
  rw [List.mem_map]
  constructor
  · intro hm
    refine ⟨_, hm, ?_⟩
    simp
    omega
  · rintro ⟨c, hc, rfl⟩
    simpa using hc

set_option maxHeartbeats 1000000 in
theorem consists_any (s f : ByteArray) (w : World) (hs : s.size ≤ maxLen) : Calls Tryd.prog 61 #[.string s, .string f] w fun e w' => e = .returned (.bool (wordL (numsOf f) s)) ∧ w = w' := by
  unfold maxLen at hs
  go_enter Tryd.func61, Tryd.ntmps61
  go_wp2_with fail
  go_loop [8] (fun i => ∃ k : Nat, k ≤ s.size ∧ i = .int .i64 k ∧ Hid (wordTo (numsOf f) s k = true)) (fun i => s.size - (intOf i).toNat)
  case atStart => exact ⟨0, Nat.zero_le _, rfl, Lib.hid (wordTo_zero _ _)⟩
  case round =>
    obtain ⟨k, hk, rfl, HT⟩ := hrel
    by_cases hlt : k < s.size
    · have hi : (k : Int) < (s.size : Int) := by omega
      have hr : 0 ≤ (s[k].toNat : Int) ∧ (s[k].toNat : Int) ≤ 255 := by have := s[k].toNat_lt; omega
      have hix := idxI_iff (f := f) hr
      have hw := wordB_eq (numsOf f) (s[k].toNat : Int)
      have hnum := numsOf_get hlt
      cases h1 : isL (s[k].toNat : Int)
      · cases h2 : isD (s[k].toNat : Int)
        · cases h3 : decide ((s[k].toNat : Int) ∈ numsOf f)
          · have HS : Hid (wordL (numsOf f) s = false) := Lib.hid (wordL_not hlt (by rw [hnum, hw, h1, h2, h3]; rfl))
            have hneg : idxI f (s[k].toNat : Int) < 0 := by rw [h3] at hix; simpa using hix
            clear hix hw hnum h3 hr
            go_wp2_with (first | (go_at_call 62; refine (isLetter_any _ _).mono ?_; rintro e w' ⟨rfl, rfl⟩) | (go_at_call 68; refine (isDigit_any _ _).mono ?_; rintro e w' ⟨rfl, rfl⟩) | (go_at_call 69; refine (IndexByte_any f (s[k].toNat : Int) _).mono ?_; rintro e w' ⟨rfl, rfl⟩; rw [← idxI]))
            go_ret
            exact ⟨ret_bool HS.out.symm, rfl⟩
          · have HS : Hid (wordTo (numsOf f) s (k + 1) = true) := Lib.hid (wordTo_succ HT.out (by rw [hnum, hw, h1, h2, h3]; rfl))
            have hneg : 0 ≤ idxI f (s[k].toNat : Int) := by rw [h3] at hix; simpa using hix
            clear hix hw hnum h3 hr
            go_wp2_with (first | (go_at_call 62; refine (isLetter_any _ _).mono ?_; rintro e w' ⟨rfl, rfl⟩) | (go_at_call 68; refine (isDigit_any _ _).mono ?_; rintro e w' ⟨rfl, rfl⟩) | (go_at_call 69; refine (IndexByte_any f (s[k].toNat : Int) _).mono ?_; rintro e w' ⟨rfl, rfl⟩; rw [← idxI]))
            go_round
            case rel => exact ⟨k + 1, by omega, by go_num, HS⟩
            case measure => simp [intOf]; omega
        · have HS : Hid (wordTo (numsOf f) s (k + 1) = true) := Lib.hid (wordTo_succ HT.out (by rw [hnum, hw, h1, h2]; rfl))
          clear hix hw hnum hr
          go_wp2_with (first | (go_at_call 62; refine (isLetter_any _ _).mono ?_; rintro e w' ⟨rfl, rfl⟩) | (go_at_call 68; refine (isDigit_any _ _).mono ?_; rintro e w' ⟨rfl, rfl⟩))
          go_round
          case rel => exact ⟨k + 1, by omega, by go_num, HS⟩
          case measure => simp [intOf]; omega
      · have HS : Hid (wordTo (numsOf f) s (k + 1) = true) := Lib.hid (wordTo_succ HT.out (by rw [hnum, hw, h1]; rfl))
        clear hix hw hnum hr
        go_wp2_with (go_at_call 62; refine (isLetter_any _ _).mono ?_; rintro e w' ⟨rfl, rfl⟩)
        go_round
        case rel => exact ⟨k + 1, by omega, by go_num, HS⟩
        case measure => simp [intOf]; omega
    · have HS : Hid (wordL (numsOf f) s = true) := Lib.hid (wordL_of (by omega) hk HT.out)
      go_wp2_with fail
      go_ret
      exact ⟨ret_bool HS.out.symm, rfl⟩

/-- A letter that may stand in a part of a name. -/
def l2L (x : Int) : Bool := isL x || isD x || decide (x = 45)
theorem l2Letter_any (x : Int) (w : World) : Calls Tryd.prog 59 #[.int .u8 x] w fun e w' => e = .returned (.bool (l2L x)) ∧ w = w' := by
  by_cases h1 : 97 ≤ x
  · by_cases h2 : x ≤ 122
    · go_enter Tryd.func59, Tryd.ntmps59
      go_wp2
      go_ret
      exact ⟨ret_bool (by simp [l2L, isL, h1, h2]), rfl⟩
    · have h3 : ¬ x ≤ 57 := by omega
      have h4 : 48 ≤ x := by omega
      have h5 : (x == 45) = false := by simp; omega
      go_enter Tryd.func59, Tryd.ntmps59
      go_wp2
      go_ret
      exact ⟨ret_bool (by simp [l2L, isL, isD]; omega), rfl⟩
  · by_cases h4 : 48 ≤ x
    · by_cases h3 : x ≤ 57
      · go_enter Tryd.func59, Tryd.ntmps59
        go_wp2
        go_ret
        exact ⟨ret_bool (by simp [l2L, isD, h3, h4]), rfl⟩
      · have h5 : (x == 45) = false := by simp; omega
        go_enter Tryd.func59, Tryd.ntmps59
        go_wp2
        go_ret
        exact ⟨ret_bool (by simp [l2L, isL, isD]; omega), rfl⟩
    · by_cases h5 : x = 45
      · subst h5
        go_enter Tryd.func59, Tryd.ntmps59
        go_wp2
        go_ret
        exact ⟨rfl, rfl⟩
      · have h6 : (x == 45) = false := by simpa using h5
        go_enter Tryd.func59, Tryd.ntmps59
        go_wp2
        go_ret
        exact ⟨ret_bool (by simp [l2L, isL, isD]; omega), rfl⟩
end Go.Proofs.YtpcflkdeoafpeaaDoor
namespace Go.Proofs.YtpcflkdeoafpeaaDoor
open Go.RowKit

/-- One byte more: what stands behind the last instance grows, or is laid as a piece. -/
def cutStep (c : UInt8) (st : List (List UInt8) × List UInt8) (x : UInt8) : List (List UInt8) × List UInt8 := if x = c then (st.1 ++ [st.2], []) else (st.1, st.2 ++ [x])
def cutFrom (c : UInt8) (st : List (List UInt8) × List UInt8) (l : List UInt8) : List (List UInt8) × List UInt8 := l.foldl (cutStep c) st
def cutTo (c : UInt8) (l : List UInt8) : List (List UInt8) × List UInt8 := cutFrom c ([], []) l
def piecesL (c : UInt8) (l : List UInt8) : List (List UInt8) := (cutTo c l).1 ++ [(cutTo c l).2]
def bs (l : List UInt8) : ByteArray := ⟨l.toArray⟩
theorem bs_data (s : ByteArray) : bs s.data.toList = s := by unfold bs; simp
/-- The pieces of a text. -/
def piecesB (c : UInt8) (s : ByteArray) : List ByteArray := (piecesL c s.data.toList).map bs

theorem cutTo_snoc (c x : UInt8) (l : List UInt8) : cutTo c (l ++ [x]) = cutStep c (cutTo c l) x := by simp [cutTo, cutFrom, List.foldl_append]
theorem cutFrom_none {c : UInt8} : ∀ {l : List UInt8} (st : List (List UInt8) × List UInt8), c ∉ l → cutFrom c st l = (st.1, st.2 ++ l)
  | [], st, _ => by simp [cutFrom]
  | x :: l, st, h => by
    have hx : ¬ x = c := fun e => h (by simp [e])
    have hl : c ∉ l := fun e => h (by simp [e])
    have ih := cutFrom_none (c := c) (l := l) (st.1, st.2 ++ [x]) hl
    show cutFrom c (cutStep c st x) l = _
    rw [cutStep, if_neg hx, ih]
    simp
theorem cutFrom_front {c : UInt8} : ∀ (l : List UInt8) (d : List (List UInt8)) (u : List UInt8), cutFrom c (d, u) l = (d ++ (cutFrom c ([], u) l).1, (cutFrom c ([], u) l).2)
  | [], d, u => by simp [cutFrom]
  | x :: l, d, u => by
    show cutFrom c (cutStep c (d, u) x) l = (d ++ (cutFrom c (cutStep c ([], u) x) l).1, (cutFrom c (cutStep c ([], u) x) l).2)
    unfold cutStep
    by_cases h : x = c
    · simp only [if_pos h]
      rw [cutFrom_front l (d ++ [u]) [], cutFrom_front l ([] ++ [u]) []]
      simp
    · simp only [if_neg h]
      exact cutFrom_front l d (u ++ [x])
theorem piecesL_none {c : UInt8} {l : List UInt8} (h : c ∉ l) : piecesL c l = [l] := by
  unfold piecesL cutTo
  rw [cutFrom_none _ h]
  simp
theorem piecesL_hit {c : UInt8} {a b : List UInt8} (h : c ∉ a) : piecesL c (a ++ c :: b) = a :: piecesL c b := by
  unfold piecesL cutTo
  have e : cutFrom c ([], []) (a ++ c :: b) = cutFrom c ([a], []) b := by
    show (a ++ c :: b).foldl (cutStep c) ([], []) = _
    rw [List.foldl_append]
    have h1 : a.foldl (cutStep c) ([], []) = ([], a) := by have := cutFrom_none (c := c) ([], []) h; simpa [cutFrom] using this
    rw [h1, List.foldl_cons, cutStep, if_pos rfl]
    rfl
  rw [e, cutFrom_front b [a] []]
  simp
theorem splitK_pieces (c : UInt8) : ∀ (k : Nat) (l : List UInt8), l.count c = k → Lib.splitK [c] 0 k l = piecesL c l
  | 0, l, h => by rw [piecesL_none (List.count_eq_zero.1 h)]; rfl
  | k + 1, l, h => by
    have hm : c ∈ l := List.count_pos_iff.1 (by omega)
    have hg := Lib.indexByte_ge l c
    have hne : Lib.indexByte l c ≠ -1 := fun e => by
      obtain ⟨j, hj, hjc⟩ := List.getElem_of_mem hm
      exact Lib.indexByte_none e j (by rw [List.getElem?_eq_getElem hj, hjc])
    obtain ⟨i, hi⟩ : ∃ i : Nat, Lib.indexByte l c = i := ⟨(Lib.indexByte l c).toNat, by omega⟩
    obtain ⟨h1, h2⟩ := Lib.indexByte_some hi
    obtain ⟨hil, hic⟩ := List.getElem?_eq_some_iff.1 h1
    have hl : l = l.take i ++ c :: l.drop (i + 1) := by
      conv => lhs; rw [← List.take_append_drop i l, List.drop_eq_getElem_cons hil, hic]
    have hno : c ∉ l.take i := fun e => by
      obtain ⟨j, hj, hjc⟩ := List.getElem_of_mem e
      have hji : j < i := by simp at hj; omega
      exact h2 j hji (by rw [← hjc, List.getElem_take, List.getElem?_eq_getElem])
    have hcount : (l.drop (i + 1)).count c = k := by
      rw [hl, List.count_append, List.count_eq_zero.2 hno, List.count_cons_self] at h
      omega
    have hx : Lib.index l [c] = i := by rw [Lib.index_one, hi]
    have hb : ¬ ((i : Int) == -1) = true := by simp
    unfold Lib.splitK
    rw [hx, if_neg hb, Int.toNat_natCast, Nat.add_zero]
    conv => rhs; rw [hl]
    rw [piecesL_hit hno]
    show _ :: Lib.splitK [c] 0 k (l.drop (i + 1)) = _
    rw [splitK_pieces c k _ hcount]
theorem splitB_pieces (c : UInt8) (s : ByteArray) : Lib.splitB ⟨#[c]⟩ 0 (s.data.toList.count c) s = piecesB c s := by
  have h := Lib.splitB_data ⟨#[c]⟩ 0 (s.data.toList.count c) s
  have e : (⟨#[c]⟩ : ByteArray).data.toList = [c] := rfl
  rw [e, splitK_pieces c _ _ rfl] at h
  unfold piecesB
  rw [← h, List.map_map]
  conv => lhs; rw [← List.map_id (Lib.splitB ⟨#[c]⟩ 0 (s.data.toList.count c) s)]
  apply List.map_congr_left
  intro x _
  exact (bs_data x).symm
theorem cutFrom_length (c : UInt8) : ∀ (l : List UInt8) (st : List (List UInt8) × List UInt8), (cutFrom c st l).1.length = st.1.length + l.count c
  | [], st => by simp [cutFrom]
  | x :: l, st => by
    show (cutFrom c (cutStep c st x) l).1.length = _
    rw [cutFrom_length c l]
    unfold cutStep
    by_cases h : x = c
    · subst h; simp; omega
    · rw [List.count_cons_of_ne h]
      simp [h]
theorem piecesB_length (c : UInt8) (s : ByteArray) : (piecesB c s).length = s.data.toList.count c + 1 := by
  unfold piecesB piecesL cutTo
  have := cutFrom_length c s.data.toList ([], [])
  simp at this ⊢
  omega
/-- No piece is longer than the text. -/
theorem cutFrom_sizes (c : UInt8) (n : Nat) : ∀ (l : List UInt8) (st : List (List UInt8) × List UInt8), (∀ p ∈ st.1, p.length ≤ n) → st.2.length + l.length ≤ n → (∀ p ∈ (cutFrom c st l).1, p.length ≤ n) ∧ (cutFrom c st l).2.length ≤ n
  | [], st, h, h2 => ⟨h, by simpa [cutFrom] using h2⟩
  | x :: l, st, h, h2 => by
    show (∀ p ∈ (cutFrom c (cutStep c st x) l).1, p.length ≤ n) ∧ (cutFrom c (cutStep c st x) l).2.length ≤ n
    simp only [List.length_cons] at h2
    unfold cutStep
    by_cases hx : x = c
    · rw [if_pos hx]
      refine cutFrom_sizes c n l _ (fun p hp => ?_) (by simp; omega)
      simp only [List.mem_append, List.mem_singleton] at hp
      rcases hp with hp | rfl
      · exact h p hp
      · omega
    · rw [if_neg hx]
      exact cutFrom_sizes c n l _ h (by simp; omega)
theorem piecesB_size {c : UInt8} {s p : ByteArray} (h : p ∈ piecesB c s) : p.size ≤ s.size := by
  unfold piecesB at h
  rw [List.mem_map] at h
  obtain ⟨l, hl, rfl⟩ := h
  obtain ⟨h1, h2⟩ := cutFrom_sizes c s.data.toList.length s.data.toList ([], []) (by simp) (by simp)
  have e : (bs l).size = l.length := by show l.toArray.size = l.length; simp
  have e2 : s.data.toList.length = s.size := by show s.data.toList.length = s.data.size; simp
  rw [e, ← e2]
  unfold piecesL cutTo at hl
  rw [List.mem_append, List.mem_singleton] at hl
  rcases hl with hl | rfl
  · exact h1 l hl
  · exact h2

/-! a name -/
def partOk (p : ByteArray) : Bool := decide (0 < p.size) && wordL [45] p
def partsTo (ps : List ByteArray) (k : Nat) : Bool := (ps.take k).all partOk
def lastB (ps : List ByteArray) : Int := (numsOf (ps.getD (ps.length - 1) ByteArray.empty)).getD 0 0
def smallL (x : Int) : Bool := decide (97 ≤ x) && decide (x ≤ 122)
/-- A name: parts of small letters, digits and hyphens between points, at most twenty letters, a letter at the last part's head. -/
def nameOk (s : ByteArray) : Bool := partsTo (piecesB 46 s) (piecesB 46 s).length && decide (s.size ≤ 20) && smallL (lastB (piecesB 46 s))
theorem partsTo_zero (ps : List ByteArray) : partsTo ps 0 = true := rfl
theorem partsTo_succ {ps : List ByteArray} {k : Nat} {p : ByteArray} (h : partsTo ps k = true) (hp : ps[k]? = some p) (h1 : partOk p = true) : partsTo ps (k + 1) = true := by
  unfold partsTo at *
  obtain ⟨hk, rfl⟩ := List.getElem?_eq_some_iff.1 hp
  rw [List.take_succ_eq_append_getElem hk, List.all_append, h]
  simpa using h1
theorem nameOk_not {s p : ByteArray} {k : Nat} (hp : (piecesB 46 s)[k]? = some p) (h : partOk p = false) : nameOk s = false := by
  have hm : p ∈ piecesB 46 s := List.mem_of_getElem? hp
  have h2 : partsTo (piecesB 46 s) (piecesB 46 s).length = false := by
    unfold partsTo
    rw [List.take_length, List.all_eq_false]
    exact ⟨p, hm, by rw [h]; simp⟩
  rw [nameOk, h2]
  rfl
theorem nameOk_size {s : ByteArray} (h : nameOk s = true) : s.size ≤ 20 := by
  simp [nameOk] at h
  omega
theorem nameOk_of {s : ByteArray} {n : Nat} (hn : (piecesB 46 s).length = n) (h : partsTo (piecesB 46 s) n = true) : nameOk s = (decide (s.size ≤ 20) && smallL (lastB (piecesB 46 s))) := by
  rw [nameOk, hn, h]
  rfl
end Go.Proofs.YtpcflkdeoafpeaaDoor

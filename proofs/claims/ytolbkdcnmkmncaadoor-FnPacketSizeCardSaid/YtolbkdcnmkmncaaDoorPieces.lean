/-
  The pieces of a text between the instances of one byte, as a plain function; what strings.Split makes of it is the same. Plain lists, no walk. Conditions: none.
-/
import Derived.Test.YtolbkdcnmkmncaaDoorStr
import Derived.Lib.Split
import Derived.Lib.SplitLaws
import Derived.Lib.IndexBytes
namespace Go.Proofs.YtolbkdcnmkmncaaDoor
open Go.RowKit

/-- One byte more: what stands behind the last instance grows, or is laid as a piece. -/
def cutStep (c : UInt8) (st : List (List UInt8) × List UInt8) (x : UInt8) : List (List UInt8) × List UInt8 := if x = c then (st.1 ++ [st.2], []) else (st.1, st.2 ++ [x])
def cutFrom (c : UInt8) (st : List (List UInt8) × List UInt8) (l : List UInt8) : List (List UInt8) × List UInt8 := l.foldl (cutStep c) st
def cutTo (c : UInt8) (l : List UInt8) : List (List UInt8) × List UInt8 := cutFrom c ([], []) l
def piecesL (c : UInt8) (l : List UInt8) : List (List UInt8) := (cutTo c l).1 ++ [(cutTo c l).2]
def bs (l : List UInt8) : ByteArray := ⟨l.toArray⟩
theorem bs_data (s : ByteArray) : bs s.data.toList = s := by unfold bs; simp
/-- The pieces of a text. -/
def piecesB (c : UInt8) (s : ByteArray) : List ByteArray := (piecesL c s.data.toList).map bs

theorem cutTo_snoc (c x : UInt8) (l : List UInt8) : cutTo c (l ++ [x]) = cutStep c (cutTo c l) x := by simp [cutTo, cutFrom, List.foldl_append]
theorem cutFrom_none {c : UInt8} : ∀ {l : List UInt8} (st : List (List UInt8) × List UInt8), c ∉ l → cutFrom c st l = (st.1, st.2 ++ l)
  | [], st, _ => by simp [cutFrom]
  | x :: l, st, h => by
    have hx : ¬ x = c := fun e => h (by simp [e])
    have hl : c ∉ l := fun e => h (by simp [e])
    have ih := cutFrom_none (c := c) (l := l) (st.1, st.2 ++ [x]) hl
    show cutFrom c (cutStep c st x) l = _
    rw [cutStep, if_neg hx, ih]
    simp
theorem cutFrom_front {c : UInt8} : ∀ (l : List UInt8) (d : List (List UInt8)) (u : List UInt8), cutFrom c (d, u) l = (d ++ (cutFrom c ([], u) l).1, (cutFrom c ([], u) l).2)
  | [], d, u => by simp [cutFrom]
  | x :: l, d, u => by
    show cutFrom c (cutStep c (d, u) x) l = (d ++ (cutFrom c (cutStep c ([], u) x) l).1, (cutFrom c (cutStep c ([], u) x) l).2)
    unfold cutStep
    by_cases h : x = c
    · simp only [if_pos h]
      rw [cutFrom_front l (d ++ [u]) [], cutFrom_front l ([] ++ [u]) []]
      simp
    · simp only [if_neg h]
      exact cutFrom_front l d (u ++ [x])
theorem piecesL_none {c : UInt8} {l : List UInt8} (h : c ∉ l) : piecesL c l = [l] := by
  unfold piecesL cutTo
  rw [cutFrom_none _ h]
  simp
theorem piecesL_hit {c : UInt8} {a b : List UInt8} (h : c ∉ a) : piecesL c (a ++ c :: b) = a :: piecesL c b := by
  unfold piecesL cutTo
  have e : cutFrom c ([], []) (a ++ c :: b) = cutFrom c ([a], []) b := by
    show (a ++ c :: b).foldl (cutStep c) ([], []) = _
    rw [List.foldl_append]
    have h1 : a.foldl (cutStep c) ([], []) = ([], a) := by have := cutFrom_none (c := c) ([], []) h; simpa [cutFrom] using this
    rw [h1, List.foldl_cons, cutStep, if_pos rfl]
    rfl
  rw [e, cutFrom_front b [a] []]
  simp
theorem splitK_pieces (c : UInt8) : ∀ (k : Nat) (l : List UInt8), l.count c = k → Lib.splitK [c] 0 k l = piecesL c l
  | 0, l, h => by rw [piecesL_none (List.count_eq_zero.1 h)]; rfl
  | k + 1, l, h => by
    have hm : c ∈ l := List.count_pos_iff.1 (by omega)
    have hg := Lib.indexByte_ge l c
    have hne : Lib.indexByte l c ≠ -1 := fun e => by
      obtain ⟨j, hj, hjc⟩ := List.getElem_of_mem hm
      exact Lib.indexByte_none e j (by rw [List.getElem?_eq_getElem hj, hjc])
    obtain ⟨i, hi⟩ : ∃ i : Nat, Lib.indexByte l c = i := ⟨(Lib.indexByte l c).toNat, by omega⟩
    obtain ⟨h1, h2⟩ := Lib.indexByte_some hi
    obtain ⟨hil, hic⟩ := List.getElem?_eq_some_iff.1 h1
    have hl : l = l.take i ++ c :: l.drop (i + 1) := by
      conv => lhs; rw [← List.take_append_drop i l, List.drop_eq_getElem_cons hil, hic]
    have hno : c ∉ l.take i := fun e => by
      obtain ⟨j, hj, hjc⟩ := List.getElem_of_mem e
      have hji : j < i := by simp at hj; omega
      exact h2 j hji (by rw [← hjc, List.getElem_take, List.getElem?_eq_getElem])
    have hcount : (l.drop (i + 1)).count c = k := by
      rw [hl, List.count_append, List.count_eq_zero.2 hno, List.count_cons_self] at h
      omega
    have hx : Lib.index l [c] = i := by rw [Lib.index_one, hi]
    have hb : ¬ ((i : Int) == -1) = true := by simp
    unfold Lib.splitK
    rw [hx, if_neg hb, Int.toNat_natCast, Nat.add_zero]
    conv => rhs; rw [hl]
    rw [piecesL_hit hno]
    show _ :: Lib.splitK [c] 0 k (l.drop (i + 1)) = _
    rw [splitK_pieces c k _ hcount]
theorem splitB_pieces (c : UInt8) (s : ByteArray) : Lib.splitB ⟨#[c]⟩ 0 (s.data.toList.count c) s = piecesB c s := by
  have h := Lib.splitB_data ⟨#[c]⟩ 0 (s.data.toList.count c) s
  have e : (⟨#[c]⟩ : ByteArray).data.toList = [c] := rfl
  rw [e, splitK_pieces c _ _ rfl] at h
  unfold piecesB
  rw [← h, List.map_map]
  conv => lhs; rw [← List.map_id (Lib.splitB ⟨#[c]⟩ 0 (s.data.toList.count c) s)]
  apply List.map_congr_left
  intro x _
  exact (bs_data x).symm
theorem cutFrom_length (c : UInt8) : ∀ (l : List UInt8) (st : List (List UInt8) × List UInt8), (cutFrom c st l).1.length = st.1.length + l.count c
  | [], st => by simp [cutFrom]
  | x :: l, st => by
    show (cutFrom c (cutStep c st x) l).1.length = _
    rw [cutFrom_length c l]
    unfold cutStep
    by_cases h : x = c
    · subst h; simp; omega
    · rw [List.count_cons_of_ne h]
      simp [h]
theorem piecesB_length (c : UInt8) (s : ByteArray) : (piecesB c s).length = s.data.toList.count c + 1 := by
  unfold piecesB piecesL cutTo
  have := cutFrom_length c s.data.toList ([], [])
  simp at this ⊢
  omega
/-- No piece is longer than the text. -/
theorem cutFrom_sizes (c : UInt8) (n : Nat) : ∀ (l : List UInt8) (st : List (List UInt8) × List UInt8), (∀ p ∈ st.1, p.length ≤ n) → st.2.length + l.length ≤ n → (∀ p ∈ (cutFrom c st l).1, p.length ≤ n) ∧ (cutFrom c st l).2.length ≤ n
  | [], st, h, h2 => ⟨h, by simpa [cutFrom] using h2⟩
  | x :: l, st, h, h2 => by
    show (∀ p ∈ (cutFrom c (cutStep c st x) l).1, p.length ≤ n) ∧ (cutFrom c (cutStep c st x) l).2.length ≤ n
    simp only [List.length_cons] at h2
    unfold cutStep
    by_cases hx : x = c
    · rw [if_pos hx]
      refine cutFrom_sizes c n l _ (fun p hp => ?_) (by simp; omega)
      simp only [List.mem_append, List.mem_singleton] at hp
      rcases hp with hp | rfl
      · exact h p hp
      · omega
    · rw [if_neg hx]
      exact cutFrom_sizes c n l _ h (by simp; omega)
theorem piecesB_size {c : UInt8} {s p : ByteArray} (h : p ∈ piecesB c s) : p.size ≤ s.size := by
  unfold piecesB at h
  rw [List.mem_map] at h
  obtain ⟨l, hl, rfl⟩ := h
  obtain ⟨h1, h2⟩ := cutFrom_sizes c s.data.toList.length s.data.toList ([], []) (by simp) (by simp)
  have e : (bs l).size = l.length := by show l.toArray.size = l.length; simp
  have e2 : s.data.toList.length = s.size := by show s.data.toList.length = s.data.size; simp
  rw [e, ← e2]
  unfold piecesL cutTo at hl
  rw [List.mem_append, List.mem_singleton] at hl
  rcases hl with hl | rfl
  · exact h1 l hl
  · exact h2

/-! a name -/
def partOk (p : ByteArray) : Bool := decide (0 < p.size) && wordL [45] p
def partsTo (ps : List ByteArray) (k : Nat) : Bool := (ps.take k).all partOk
def lastB (ps : List ByteArray) : Int := (numsOf (ps.getD (ps.length - 1) ByteArray.empty)).getD 0 0
def smallL (x : Int) : Bool := decide (97 ≤ x) && decide (x ≤ 122)
/-- A name: parts of small letters, digits and hyphens between points, at most twenty letters, a letter at the last part's head. -/
def nameOk (s : ByteArray) : Bool := partsTo (piecesB 46 s) (piecesB 46 s).length && decide (s.size ≤ 20) && smallL (lastB (piecesB 46 s))
theorem partsTo_zero (ps : List ByteArray) : partsTo ps 0 = true := rfl
theorem partsTo_succ {ps : List ByteArray} {k : Nat} {p : ByteArray} (h : partsTo ps k = true) (hp : ps[k]? = some p) (h1 : partOk p = true) : partsTo ps (k + 1) = true := by
  unfold partsTo at *
  obtain ⟨hk, rfl⟩ := List.getElem?_eq_some_iff.1 hp
  rw [List.take_succ_eq_append_getElem hk, List.all_append, h]
  simpa using h1
theorem nameOk_not {s p : ByteArray} {k : Nat} (hp : (piecesB 46 s)[k]? = some p) (h : partOk p = false) : nameOk s = false := by
  have hm : p ∈ piecesB 46 s := List.mem_of_getElem? hp
  have h2 : partsTo (piecesB 46 s) (piecesB 46 s).length = false := by
    unfold partsTo
    rw [List.take_length, List.all_eq_false]
    exact ⟨p, hm, by rw [h]; simp⟩
  rw [nameOk, h2]
  rfl
theorem nameOk_size {s : ByteArray} (h : nameOk s = true) : s.size ≤ 20 := by
  simp [nameOk] at h
  omega
theorem nameOk_of {s : ByteArray} {n : Nat} (hn : (piecesB 46 s).length = n) (h : partsTo (piecesB 46 s) n = true) : nameOk s = (decide (s.size ≤ 20) && smallL (lastB (piecesB 46 s))) := by
  rw [nameOk, hn, h]
  rfl
end Go.Proofs.YtolbkdcnmkmncaaDoor

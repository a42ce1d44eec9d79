/-
  Numerals, quads and addresses read back from their texts: plain laws, no program. Conditions: none.
-/
import Derived.Test.YtjnnmihbkieblaaDoorAdT
import Derived.Test.YtjnnmihbkieblaaDoorAnsT
import Derived.Lib.AtoiTie
import Derived.Lib.AtoiAllCases
import Derived.Lib.ItoaMem
namespace Go.Proofs.YtjnnmihbkieblaaDoor
open Go.RowKit

/-! numerals -/
def digit (c : UInt8) : Bool := decide (48 ≤ c.toNat) && decide (c.toNat ≤ 57)
theorem ext_of_ {a b : ByteArray} (h : a.data.toList = b.data.toList) : a = b := ByteArray.ext (Array.ext' h)
def numD (l : List UInt8) : Nat := l.foldl (fun a c => 10 * a + (c.toNat - 48)) 0
theorem dec_digits : ∀ (k n : Nat), n ≤ k → ∀ c ∈ Lib.decDigits n, 48 ≤ c.toNat ∧ c.toNat ≤ 57 := by
  intro k
  induction k with
  | zero =>
    intro n hn c hc
    rw [Lib.decDigits_one (by omega)] at hc
    rw [List.mem_singleton] at hc
    subst hc
    rw [UInt8.toNat_ofNat']
    omega
  | succ k ih =>
    intro n hn c hc
    by_cases h : n < 10
    · rw [Lib.decDigits_one h, List.mem_singleton] at hc
      subst hc
      rw [UInt8.toNat_ofNat']
      omega
    · rw [Lib.decDigits, dif_neg h, List.mem_append, List.mem_singleton] at hc
      rcases hc with hc | rfl
      · exact ih (n / 10) (by omega) c hc
      · rw [UInt8.toNat_ofNat']
        omega
theorem dec_digit {n : Nat} {c : UInt8} (h : c ∈ Lib.decDigits n) : 48 ≤ c.toNat ∧ c.toNat ≤ 57 := dec_digits n n (Nat.le_refl _) c h
theorem dec_no {n : Nat} {c : UInt8} (hc : c.toNat < 48 ∨ 57 < c.toNat) : c ∉ Lib.decDigits n := fun h => by
  have := dec_digit h
  omega
theorem numD_decs : ∀ (k n : Nat), n ≤ k → numD (Lib.decDigits n) = n := by
  intro k
  induction k with
  | zero =>
    intro n hn
    have : n = 0 := by omega
    subst this
    rw [Lib.decDigits_one (by omega)]
    rfl
  | succ k ih =>
    intro n hn
    by_cases h : n < 10
    · rw [Lib.decDigits_one h]
      simp only [numD, List.foldl_cons, List.foldl_nil, UInt8.toNat_ofNat']
      omega
    · rw [Lib.decDigits, dif_neg h]
      have h1 := ih (n / 10) (by omega)
      unfold numD at h1 ⊢
      rw [List.foldl_append, h1]
      simp only [List.foldl_cons, List.foldl_nil, UInt8.toNat_ofNat']
      omega
theorem numD_dec (n : Nat) : numD (Lib.decDigits n) = n := numD_decs n n (Nat.le_refl _)
theorem dec_inj {a b : Nat} (h : decB a = decB b) : a = b := by
  unfold decB at h
  injection h with h
  have h2 : Lib.decDigits a = Lib.decDigits b := by simpa using h
  rw [← numD_dec a, h2, numD_dec b]
theorem nDigits_le : ∀ (k n : Nat), n < 10 ^ (k + 1) → Lib.nDigits n ≤ k + 1
  | 0, n, h => by
    rw [Lib.nDigits, dif_pos (by simpa using h)]
    exact Nat.le_refl _
  | k + 1, n, h => by
    by_cases h1 : n < 10
    · rw [Lib.nDigits, dif_pos h1]
      omega
    · rw [Lib.nDigits, dif_neg h1]
      have := nDigits_le k (n / 10) (by rw [Nat.pow_succ] at h; omega)
      omega
theorem dec_len {n : Nat} (h : n ≤ 65535) : (Lib.decDigits n).length ≤ 5 := by
  rw [Lib.decDigits_length]
  exact nDigits_le 4 n (by omega)
theorem dec_pos (n : Nat) : 0 < (Lib.decDigits n).length := by
  rw [Lib.decDigits_length, Lib.nDigits]
  split <;> omega
theorem decFrom_dec : ∀ (l : List UInt8) (acc : Nat), (∀ c ∈ l, 48 ≤ c.toNat ∧ c.toNat ≤ 57) → Lib.decFrom acc l = some (l.foldl (fun a c => 10 * a + (c.toNat - 48)) acc)
  | [], acc, _ => rfl
  | c :: r, acc, h => by
    have hc := h c (by simp)
    rw [Lib.decFrom, Lib.digitVal, if_pos hc]
    show Lib.decFrom (acc * 10 + (c.toNat - 48)) r = _
    rw [decFrom_dec r _ (fun x hx => h x (by simp [hx])), List.foldl_cons, Nat.mul_comm acc 10]
/-- What the program reads as a decimal numeral. -/
def dcm (s : ByteArray) : Option Int :=
  match Lib.atoiAll s.data.toList with
  | .ok v => if Lib.itoa v = s.data.toList then some v else none
  | _ => none
theorem atoi_dec {n : Nat} (h : n ≤ 65535) : Lib.atoiAll (Lib.decDigits n) = .ok (n : Int) := by
  have hl := dec_len h
  rw [Lib.atoiAll_short _ (by omega)]
  have hp := dec_pos n
  have hd := fun c (hc : c ∈ Lib.decDigits n) => dec_digit hc
  have hf := decFrom_dec (Lib.decDigits n) 0 hd
  have hv : (Lib.decDigits n).foldl (fun a c => 10 * a + (c.toNat - 48)) 0 = n := numD_dec n
  rw [hv] at hf
  revert hp hd hf
  generalize Lib.decDigits n = l
  intro hp hd hf
  match l, hp, hd, hf with
  | b :: r, _, hd, hf =>
    have hb := hd b (by simp)
    have h1 : (b == 45) = false := by
      rw [beq_eq_false_iff_ne]
      intro e
      rw [e] at hb
      exact absurd hb.1 (by decide)
    have h2 : (b == 43) = false := by
      rw [beq_eq_false_iff_ne]
      intro e
      rw [e] at hb
      exact absurd hb.1 (by decide)
    simp only [Lib.atoi, h1, h2, Bool.false_eq_true, if_false, Lib.decNat, List.isEmpty_cons, hf, Option.map_some]
    rfl
theorem dcm_dec {n : Nat} (h : n ≤ 65535) : dcm (decB n) = some (n : Int) := by
  have e : (decB n).data.toList = Lib.decDigits n := by simp [decB]
  unfold dcm
  rw [e, atoi_dec h]
  simp only [Lib.itoa_nonneg, if_true]
theorem dcm_some {s : ByteArray} {v : Int} (h : dcm s = some v) : Lib.itoa v = s.data.toList := by
  unfold dcm at h
  split at h
  · split at h
    · rename_i hi
      injection h with h
      rw [← h]
      exact hi
    · cases h
  · cases h
theorem dcm_nat {s : ByteArray} {v : Int} (h : dcm s = some v) (h0 : 0 ≤ v) : s = decB v.toNat := by
  have h1 := dcm_some h
  obtain ⟨n, rfl⟩ : ∃ n : Nat, v = n := ⟨v.toNat, by omega⟩
  rw [Lib.itoa_nonneg] at h1
  apply ByteArray.ext
  apply Array.ext'
  rw [← h1]
  simp [decB]
/-- What the reference reads as a number of one to five digits. -/
def l2N (s : ByteArray) : Int := if 1 ≤ s.size ∧ s.size ≤ 5 ∧ s.data.toList.all digit = true then (numD s.data.toList : Nat) else -1
theorem l2N_dec {n : Nat} (h : n ≤ 65535) : l2N (decB n) = (n : Int) := by
  have e : (decB n).data.toList = Lib.decDigits n := by simp [decB]
  have hs : (decB n).size = (Lib.decDigits n).length := by simp [decB, ByteArray.size]
  unfold l2N
  rw [if_pos, e, numD_dec]
  rw [hs, e]
  refine ⟨dec_pos n, dec_len h, ?_⟩
  rw [List.all_eq_true]
  intro c hc
  have := dec_digit hc
  simp [digit, this.1, this.2]

/-! pieces and their text -/
def glue (c : UInt8) : List (List UInt8) → List UInt8
  | [] => []
  | [a] => a
  | a :: b :: r => a ++ c :: glue c (b :: r)
theorem pieces_ne (c : UInt8) (l : List UInt8) : piecesL c l ≠ [] := by
  unfold piecesL
  simp
theorem glue_cons {c : UInt8} {a : List UInt8} {ps : List (List UInt8)} (h : ps ≠ []) : glue c (a :: ps) = a ++ c :: glue c ps := by
  cases ps with
  | nil => exact absurd rfl h
  | cons b r => rfl
theorem glue_piecesN (c : UInt8) : ∀ (n : Nat) (l : List UInt8), l.length ≤ n → glue c (piecesL c l) = l ∧ ∀ p ∈ piecesL c l, c ∉ p := by
  intro n
  induction n with
  | zero =>
    intro l hl
    have : l = [] := List.eq_nil_of_length_eq_zero (by omega)
    subst this
    rw [piecesL_none (by simp)]
    exact ⟨rfl, by simp⟩
  | succ n ih =>
    intro l hl
    by_cases hc : c ∈ l
    · obtain ⟨a, b, rfl, ha⟩ := List.eq_append_cons_of_mem hc
      rw [piecesL_hit ha]
      obtain ⟨h1, h2⟩ := ih b (by simp at hl; omega)
      refine ⟨by rw [glue_cons (pieces_ne c b), h1], ?_⟩
      intro p hp
      rw [List.mem_cons] at hp
      rcases hp with rfl | hp
      · exact ha
      · exact h2 p hp
    · rw [piecesL_none hc]
      exact ⟨rfl, by simpa using hc⟩
theorem glue_pieces (c : UInt8) (l : List UInt8) : glue c (piecesL c l) = l := (glue_piecesN c l.length l (Nat.le_refl _)).1
theorem pieces_no {c : UInt8} {l p : List UInt8} (h : p ∈ piecesL c l) : c ∉ p := (glue_piecesN c l.length l (Nat.le_refl _)).2 p h
theorem pieces_glue {c : UInt8} : ∀ {ps : List (List UInt8)}, ps ≠ [] → (∀ p ∈ ps, c ∉ p) → piecesL c (glue c ps) = ps
  | [], h, _ => absurd rfl h
  | [a], _, h => piecesL_none (h a (by simp))
  | a :: b :: r, _, h => by
    rw [glue_cons (by simp), piecesL_hit (h a (by simp)), pieces_glue (by simp) (fun p hp => h p (by simp [hp]))]
theorem split_inj {c : UInt8} {a a' b b' : List UInt8} (h : a ++ c :: b = a' ++ c :: b') (ha : c ∉ a) (ha' : c ∉ a') : a = a' ∧ b = b' := by
  have h1 := congrArg (piecesL c) h
  rw [piecesL_hit ha, piecesL_hit ha'] at h1
  injection h1 with h1 _
  subst h1
  have h2 := List.append_cancel_left h
  injection h2 with _ h2
  exact ⟨rfl, h2⟩

/-! quads -/
theorem quadB_data (qs : List Int) : (quadB qs).data.toList = glue 46 [Lib.decDigits (qs.getD 0 0).toNat, Lib.decDigits (qs.getD 1 0).toNat, Lib.decDigits (qs.getD 2 0).toNat, Lib.decDigits (qs.getD 3 0).toNat] := by
  simp [quadB, glue, dotB, decB, ByteArray.data_append]
theorem quad_pieces (qs : List Int) : piecesB 46 (quadB qs) = [decB (qs.getD 0 0).toNat, decB (qs.getD 1 0).toNat, decB (qs.getD 2 0).toNat, decB (qs.getD 3 0).toNat] := by
  unfold piecesB
  rw [quadB_data, pieces_glue (by simp)]
  · rfl
  · intro p hp
    simp only [List.mem_cons, List.not_mem_nil, or_false] at hp
    rcases hp with rfl | rfl | rfl | rfl <;> exact dec_no (.inl (by decide))
theorem quad_four {qs : List Int} (h : quadOk qs = true) : ∃ a b c d : Nat, qs = [(a : Int), (b : Int), (c : Int), (d : Int)] ∧ a ≤ 255 ∧ b ≤ 255 ∧ c ≤ 255 ∧ d ≤ 255 := by
  obtain ⟨h1, h2⟩ := quadOk_parts h
  match qs, h1 with
  | [w, x, y, z], _ =>
    have hw := h2 w (by simp)
    have hx := h2 x (by simp)
    have hy := h2 y (by simp)
    have hz := h2 z (by simp)
    refine ⟨w.toNat, x.toNat, y.toNat, z.toNat, ?_, by omega, by omega, by omega, by omega⟩
    rw [Int.toNat_of_nonneg hw.1, Int.toNat_of_nonneg hx.1, Int.toNat_of_nonneg hy.1, Int.toNat_of_nonneg hz.1]
theorem quad_inj {q r : List Int} (hq : quadOk q = true) (hr : quadOk r = true) (h : quadB q = quadB r) : q = r := by
  have h1 := quad_pieces q
  rw [h, quad_pieces r] at h1
  obtain ⟨a, b, c, d, rfl, _, _, _, _⟩ := quad_four hq
  obtain ⟨a', b', c', d', rfl, _, _, _, _⟩ := quad_four hr
  simp at h1
  obtain ⟨e1, e2, e3, e4⟩ := h1
  rw [dec_inj e1, dec_inj e2, dec_inj e3, dec_inj e4]
theorem parts_of (s : ByteArray) : s.data.toList = glue 46 ((piecesB 46 s).map fun p => p.data.toList) := by
  unfold piecesB
  rw [List.map_map]
  have : (fun p : ByteArray => p.data.toList) ∘ bs = id := by
    funext l
    simp [bs]
  rw [this, List.map_id, glue_pieces]
/-- The program's parts make a quad: it is the text's. -/
theorem quad_of_parts {s : ByteArray} {outs : List Int} (h : (piecesB 46 s).map dcm = outs.map some) (hq : quadOk outs = true) : quadB outs = s := by
  obtain ⟨a, b, c, d, rfl, _, _, _, _⟩ := quad_four hq
  have hs := parts_of s
  match hp : piecesB 46 s with
  | [w, x, y, z] =>
    rw [hp] at h hs
    simp at h
    obtain ⟨e1, e2, e3, e4⟩ := h
    apply ByteArray.ext
    apply Array.ext'
    rw [quadB_data, hs, dcm_nat e1 (by omega), dcm_nat e2 (by omega), dcm_nat e3 (by omega), dcm_nat e4 (by omega)]
    simp [decB]
  | [] => rw [hp] at h; simp at h
  | [_] => rw [hp] at h; simp at h
  | [_, _] => rw [hp] at h; simp at h
  | [_, _, _] => rw [hp] at h; simp at h
  | _ :: _ :: _ :: _ :: _ :: _ => rw [hp] at h; simp at h
theorem parts_dcm {q : List Int} (hq : quadOk q = true) : (piecesB 46 (quadB q)).map dcm = q.map some := by
  rw [quad_pieces]
  obtain ⟨a, b, c, d, rfl, _, _, _, _⟩ := quad_four hq
  simp [dcm_dec (show a ≤ 65535 by omega), dcm_dec (show b ≤ 65535 by omega), dcm_dec (show c ≤ 65535 by omega), dcm_dec (show d ≤ 65535 by omega)]
theorem parts_l2N {q : List Int} (hq : quadOk q = true) : (piecesB 46 (quadB q)).map l2N = q := by
  rw [quad_pieces]
  obtain ⟨a, b, c, d, rfl, _, _, _, _⟩ := quad_four hq
  simp [l2N_dec (show a ≤ 65535 by omega), l2N_dec (show b ≤ 65535 by omega), l2N_dec (show c ≤ 65535 by omega), l2N_dec (show d ≤ 65535 by omega)]
/-- A text is no quad's. -/
def NoQuad (s : ByteArray) : Prop := ∀ q, quadOk q = true → quadB q ≠ s
theorem noQuad_part {s p : ByteArray} (hp : p ∈ piecesB 46 s) (h : dcm p = none) : NoQuad s := by
  rintro q hq rfl
  have h1 := parts_dcm hq
  have h2 : dcm p ∈ q.map some := by
    rw [← h1]
    exact List.mem_map.2 ⟨p, hp, rfl⟩
  rw [h] at h2
  simp at h2
theorem noQuad_not {s : ByteArray} {outs : List Int} (h : (piecesB 46 s).map dcm = outs.map some) (ho : quadOk outs = false) : NoQuad s := by
  rintro q hq rfl
  rw [parts_dcm hq] at h
  have e : q = outs := by
    have := congrArg (List.map fun x : Option Int => x.getD 0) h
    simpa [List.map_map, Function.comp_def] using this
  rw [← e, hq] at ho
  cases ho
def quX (q : List Int) : ByteArray := if quadOk q = true then quadB q else ⟨#[]⟩
theorem quadB_pos (q : List Int) : 0 < (quadB q).size := by
  unfold quadB
  simp only [ByteArray.size_append, dotB_size]
  omega
theorem quad_spec {s : ByteArray} (h : quX ((piecesB 46 s).map l2N) = s) (h0 : 0 < s.size) : quadOk ((piecesB 46 s).map l2N) = true ∧ quadB ((piecesB 46 s).map l2N) = s := by
  unfold quX at h
  split at h
  · rename_i hq
    exact ⟨hq, h⟩
  · rw [← h] at h0
    exact absurd h0 (by decide)
theorem noQuad_spec {s : ByteArray} (h : quX ((piecesB 46 s).map l2N) ≠ s) : NoQuad s := by
  rintro q hq rfl
  apply h
  rw [parts_l2N hq]
  unfold quX
  rw [if_pos hq]
theorem noQuad_empty : NoQuad ⟨#[]⟩ := by
  intro q hq h
  have := quadB_pos q
  rw [h] at this
  exact absurd this (by decide)
end Go.Proofs.YtjnnmihbkieblaaDoor

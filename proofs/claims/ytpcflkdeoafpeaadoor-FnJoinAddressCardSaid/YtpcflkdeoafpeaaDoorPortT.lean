/-
  Another port, another text: plain laws. Conditions: none.
-/
import Derived.Test.YtpcflkdeoafpeaaDoorJoinL
namespace Go.Proofs.YtpcflkdeoafpeaaDoor
open Go.RowKit

/-- A numeral, read again. -/
def numOf (l : List UInt8) : Nat := l.foldl (fun a c => a * 10 + (c.toNat - 48)) 0
theorem numOf_dec : ∀ (k n : Nat), n ≤ k → numOf (Lib.decDigits n) = n := by
  intro k
  induction k with
  | zero =>
    intro n hn
    have : n = 0 := by omega
    subst this
    rw [Lib.decDigits_one (by omega)]
    rfl
  | succ k ih =>
    intro n hn
    by_cases h : n < 10
    · rw [Lib.decDigits_one h]
      simp only [numOf, List.foldl_cons, List.foldl_nil, UInt8.toNat_ofNat']
      omega
    · rw [Lib.decDigits, dif_neg h]
      have h1 := ih (n / 10) (by omega)
      unfold numOf at h1 ⊢
      rw [List.foldl_append, h1]
      simp only [List.foldl_cons, List.foldl_nil, UInt8.toNat_ofNat']
      omega
theorem decB_inj {a b : Nat} (h : decB a = decB b) : a = b := by
  unfold decB at h
  injection h with h
  have h2 : Lib.decDigits a = Lib.decDigits b := by simpa using h
  rw [← numOf_dec a a (Nat.le_refl _), h2, numOf_dec b b (Nat.le_refl _)]
theorem adT_port {k : Int} {qs : List Int} {nm : ByteArray} {p p' : Int} (h : adT k qs nm p = adT k qs nm p') : p.toNat = p'.toNat := by
  unfold adT at h
  exact decB_inj (ByteArray.append_right_inj _ |>.1 h)
theorem next_port {p : Int} (h0 : 0 ≤ p) (h1 : p ≤ 65535) : ((p + 1) % 65536).toNat ≠ p.toNat := by omega
/-- One packet with the next port. -/
def nextP (x : (Int × Int × List Int × ByteArray × Int × List Int)) : (Int × Int × List Int × ByteArray × Int × List Int) := (x.1, x.2.1, x.2.2.1, x.2.2.2.1, (x.2.2.2.2.1 + 1) % 65536, x.2.2.2.2.2)
theorem join_port {es : List (Int × Int × List Int × ByteArray × Int × List Int)} {n : Nat} {x : (Int × Int × List Int × ByteArray × Int × List Int)} (h : jnOk es = true) (hn : es.length = n + 1) (h2 : 1 ≤ n) (hx : es[n]? = some x) : jnOk (es.set n (nextP x)) = false := by
  unfold jnOk at h
  simp only [Bool.and_eq_true] at h
  have h3 := jnTo_at h.1.2 (show n < es.length by omega)
  unfold jnAt at h3
  simp only [Bool.and_eq_true, decide_eq_true_eq] at h3
  rw [getD_of hx] at h3
  have hp := adOk_port (pkE_parts h3.1.1).1
  refine jnOk_not (j := n) (by rw [List.length_set]; omega) ?_
  have g1 : (es.set n (nextP x)).getD n noPk = nextP x := getD_of (by rw [List.getElem?_set_self (by omega)])
  have g2 : (es.set n (nextP x)).getD 0 noPk = es.getD 0 noPk := by
    simp only [List.getD]
    rw [List.getElem?_set_ne (by omega)]
  have hne : adE (nextP x) ≠ adE (es.getD 0 noPk) := by
    rw [← h3.1.2]
    intro e
    exact next_port hp.1 hp.2 (adT_port e)
  unfold jnAt
  rw [g1, g2, decide_eq_false hne]
  simp
end Go.Proofs.YtpcflkdeoafpeaaDoor

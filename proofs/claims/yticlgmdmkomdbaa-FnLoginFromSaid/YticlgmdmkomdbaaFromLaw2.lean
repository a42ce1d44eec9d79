/-
  The bytes of a hello and of a login are read back, a part of them is not; and what has been read has the bytes that stand in front: plain laws, no walk. Conditions: none.
-/
import Derived.Test.YticlgmdmkomdbaaFromLaw
namespace Go.Proofs.Yticlgmdmkomdbaa
open Go.RowKit

theorem methodsOk_mem {a : List Int} (h : methodsOk a = true) : ∀ x ∈ a, 0 ≤ x ∧ x ≤ 254 := by
  intro x hx
  obtain ⟨j, hj, rfl⟩ := List.getElem_of_mem hx
  cases h2 : inR (a.getD j 0) 0 254
  · rw [methodsOk_not hj rfl (.inl h2)] at h
    cases h
  · simpa [inR, List.getD, hj] using h2

theorem getD_zero_of {x : Int} {r : List Int} : (x :: r).getD 0 0 = x := rfl
theorem getD_one_of {x y : Int} {r : List Int} : (x :: y :: r).getD 1 0 = y := rfl

theorem hello_valid {a t : List Int} (h : methodsOk a = true) (ht : ∀ x ∈ t, 0 ≤ x ∧ x ≤ 255) (hl : t.length ≤ 100) : validL (5 :: (a.length : Int) :: (a ++ t)) = true := by
  have hm := methodsOk_len h
  refine validL_of (by simp; omega) fun x hx => ?_
  simp only [List.mem_cons, List.mem_append] at hx
  rcases hx with rfl | rfl | hx | hx
  · omega
  · omega
  · have := methodsOk_mem h x hx
    omega
  · exact ht x hx
theorem hf_of_hello {a t : List Int} (h : methodsOk a = true) (ht : ∀ x ∈ t, 0 ≤ x ∧ x ≤ 255) (hl : t.length ≤ 100) :
    hfOk (helloL a ++ t) = true ∧ hfL (helloL a ++ t) = a ∧ 2 + ((helloL a ++ t).getD 1 0).toNat = (helloL a).length := by
  have hz : helloL a ++ t = 5 :: (a.length : Int) :: (a ++ t) := by rw [helloL_ok h]; rfl
  have hL : (helloL a).length = 2 + a.length := by rw [helloL_ok h]; simp; omega
  rw [hL, hz]
  have e1 : (5 :: (a.length : Int) :: (a ++ t)).getD 1 0 = (a.length : Int) := rfl
  have e2 : hfL (5 :: (a.length : Int) :: (a ++ t)) = a := by
    unfold hfL
    rw [e1, Int.toNat_natCast]
    simp
  refine ⟨?_, e2, by rw [e1, Int.toNat_natCast]⟩
  unfold hfOk pfOk
  rw [e2, h, e1, Int.toNat_natCast, hello_valid h ht hl]
  simp
  omega
theorem hf_of_cut {a : List Int} {k : Nat} (h : methodsOk a = true) (hk : k < (helloL a).length) : hfOk ((helloL a).take k) = false := by
  cases hc : hfOk ((helloL a).take k)
  · rfl
  · exfalso
    have hL : helloL a = 5 :: (a.length : Int) :: a := helloL_ok h
    have h3 := hfOk_three hc
    have hlen : ((helloL a).take k).length = k := by rw [List.length_take]; omega
    simp only [hfOk, Bool.and_eq_true, decide_eq_true_eq] at hc
    have h2 := hc.1.2
    have e1 : ((helloL a).take k).getD 1 0 = (a.length : Int) := by
      rw [hL]
      obtain ⟨m, rfl⟩ : ∃ m, k = m + 2 := ⟨k - 2, by omega⟩
      rfl
    rw [e1, Int.toNat_natCast, hlen] at h2
    rw [hL] at hk
    simp at hk
    omega
theorem take_two {zs : List Int} (h : 2 ≤ zs.length) (n : Nat) : zs.take (2 + n) = zs.getD 0 0 :: zs.getD 1 0 :: (zs.drop 2).take n := by
  match zs, h with
  | x :: y :: r, _ =>
    rw [Nat.add_comm]
    rfl
theorem hello_of_hf {zs : List Int} (h : hfOk zs = true) : methodsOk (hfL zs) = true ∧ helloL (hfL zs) = zs.take (2 + (zs.getD 1 0).toNat) := by
  have h3 := hfOk_three h
  simp only [hfOk, Bool.and_eq_true, decide_eq_true_eq] at h
  obtain ⟨⟨h1, _⟩, hm⟩ := h
  simp only [pfOk, Bool.and_eq_true, decide_eq_true_eq] at h1
  refine ⟨hm, ?_⟩
  rw [helloL_ok hm, h3.2.1, take_two (by omega), h1.2, Int.toNat_of_nonneg h3.2.2]
  rfl

theorem wordB_byte {f : List Int} (hf : ∀ x ∈ f, 0 ≤ x ∧ x ≤ 255) {x : Int} (h : wordB f x = true) : 0 ≤ x ∧ x ≤ 255 := by
  unfold wordB at h
  simp only [Bool.or_eq_true, Bool.and_eq_true, decide_eq_true_eq] at h
  rcases h with (h | h) | h
  · omega
  · omega
  · exact hf x h
theorem login_valid {u v : ByteArray} {t : List Int} (h : loginOk u v = true) (ht : ∀ x ∈ t, 0 ≤ x ∧ x ≤ 255) (hl : t.length ≤ 90) : validL (loginB u v ++ t) = true := by
  have hp := loginOk_parts h
  refine validL_of (by rw [List.length_append, loginB_length]; omega) fun x hx => ?_
  unfold loginB at hx
  simp only [List.cons_append, List.mem_cons, List.mem_append, List.append_assoc] at hx
  rcases hx with rfl | rfl | hx | rfl | hx | hx
  · omega
  · omega
  · exact numsOf_bytes u x hx
  · omega
  · exact numsOf_bytes v x hx
  · exact ht x hx
theorem getD_append_len (a : List Int) (x : Int) (r : List Int) : (a ++ x :: r).getD a.length 0 = x := by simp [List.getD]
theorem login_at {u v : ByteArray} {t : List Int} : lfAt (loginB u v ++ t) = 2 + u.size ∧ (loginB u v ++ t).getD (2 + u.size) 0 = (v.size : Int) ∧ (loginB u v ++ t).getD 0 0 = 1 ∧ (loginB u v ++ t).getD 1 0 = (u.size : Int) := by
  have e : loginB u v ++ t = ([1, (u.size : Int)] ++ numsOf u) ++ (v.size : Int) :: (numsOf v ++ t) := by simp [loginB]
  have hl : ([1, (u.size : Int)] ++ numsOf u).length = 2 + u.size := by simp [numsOf_length]; omega
  have h1 : (loginB u v ++ t).getD 1 0 = (u.size : Int) := rfl
  refine ⟨by rw [lfAt, h1, Int.toNat_natCast], ?_, rfl, h1⟩
  rw [e, ← hl]
  exact getD_append_len _ _ _
theorem lf_of_login {u v : ByteArray} {t : List Int} (h : loginOk u v = true) (ht : ∀ x ∈ t, 0 ≤ x ∧ x ≤ 255) (hl : t.length ≤ 90) :
    lfOk (loginB u v ++ t) = true ∧ strOfNums (lfU (loginB u v ++ t)) = u ∧ strOfNums (lfW (loginB u v ++ t)) = v ∧ lfEnd (loginB u v ++ t) = (loginB u v).length := by
  obtain ⟨e1, e2, e3, e4⟩ := login_at (u := u) (v := v) (t := t)
  have eU : lfU (loginB u v ++ t) = numsOf u := by
    unfold lfU
    rw [e4, Int.toNat_natCast]
    have : (loginB u v ++ t).drop 2 = numsOf u ++ ((v.size : Int) :: (numsOf v ++ t)) := by simp [loginB]
    rw [this, ← numsOf_length u, List.take_left]
  have eW : lfW (loginB u v ++ t) = numsOf v := by
    unfold lfW
    rw [e1, e2, Int.toNat_natCast]
    have e : loginB u v ++ t = ([1, (u.size : Int)] ++ numsOf u ++ [(v.size : Int)]) ++ (numsOf v ++ t) := by simp [loginB]
    have hl : ([1, (u.size : Int)] ++ numsOf u ++ [(v.size : Int)]).length = 2 + u.size + 1 := by simp [numsOf_length]; omega
    rw [e, ← hl, List.drop_left, ← numsOf_length v, List.take_left]
  have eE : lfEnd (loginB u v ++ t) = (loginB u v).length := by
    unfold lfEnd
    rw [e1, e2, Int.toNat_natCast, loginB_length]
    omega
  refine ⟨?_, by rw [eU, str_numsOf], by rw [eW, str_numsOf], eE⟩
  unfold lfOk lfIn
  rw [eU, eW, str_numsOf, str_numsOf, h, login_valid h ht hl, e3, eE, List.length_append, loginB_length]
  simp
  omega
theorem getD_take {zs : List Int} {j k : Nat} (h : j < k) : (zs.take k).getD j 0 = zs.getD j 0 := by
  simp only [List.getD, List.getElem?_take]
  rw [if_pos h]
theorem lf_of_cut {u v : ByteArray} {k : Nat} (hk : k < (loginB u v).length) : lfOk ((loginB u v).take k) = false := by
  cases hc : lfOk ((loginB u v).take k)
  · rfl
  · exfalso
    obtain ⟨_, h5, _, he, l1, l2, hok⟩ := lfOk_parts hc
    have hlen : ((loginB u v).take k).length = k := by rw [List.length_take]; omega
    rw [hlen] at h5 he
    obtain ⟨e1, e2, e3, e4⟩ := login_at (u := u) (v := v) (t := [])
    rw [List.append_nil] at e1 e2 e3 e4
    have a1 : ((loginB u v).take k).getD 1 0 = (u.size : Int) := by rw [getD_take (by omega), e4]
    have a2 : lfAt ((loginB u v).take k) = 2 + u.size := by rw [lfAt, a1, Int.toNat_natCast]
    have a3 : lfEnd ((loginB u v).take k) = lfAt ((loginB u v).take k) + 1 + (((loginB u v).take k).getD (lfAt ((loginB u v).take k)) 0).toNat := rfl
    have a4 : ((loginB u v).take k).getD (2 + u.size) 0 = (v.size : Int) := by rw [getD_take (by omega), e2]
    rw [a2, a4, Int.toNat_natCast] at a3
    rw [loginB_length] at hk
    omega
theorem lf_of_version {zs : List Int} (h : zs.getD 0 0 ≠ 1) : lfOk zs = false := by
  cases hc : lfOk zs
  · rfl
  · exact absurd (lfOk_parts hc).2.2.1 h
theorem take_login {zs : List Int} {n m : Nat} (h : 2 + n + 1 ≤ zs.length) : zs.take (2 + n + 1 + m) = zs.getD 0 0 :: zs.getD 1 0 :: ((zs.drop 2).take n ++ zs.getD (2 + n) 0 :: (zs.drop (2 + n + 1)).take m) := by
  rw [Nat.add_assoc 2, Nat.add_assoc 2, take_two (by omega)]
  congr 2
  have e : (zs.drop 2).take (n + (1 + m)) = (zs.drop 2).take n ++ ((zs.drop 2).drop n).take (1 + m) := List.take_add ..
  rw [Nat.add_assoc n, e, List.drop_drop, Nat.add_comm 1 m]
  congr 1
  rw [List.drop_eq_getElem_cons (by omega : 2 + n < zs.length), List.take_succ_cons]
  congr 1
  simp [List.getD, (by omega : 2 + n < zs.length)]
theorem login_of_lf {zs : List Int} (h : lfOk zs = true) : loginOk (strOfNums (lfU zs)) (strOfNums (lfW zs)) = true ∧ loginB (strOfNums (lfU zs)) (strOfNums (lfW zs)) = zs.take (lfEnd zs) := by
  obtain ⟨hv, h5, h0, he, l1, l2, hok⟩ := lfOk_parts h
  have hb := bytes_of_valid hv
  have bU : ∀ x ∈ lfU zs, 0 ≤ x ∧ x ≤ 255 := fun x hx => hb x (List.mem_of_mem_drop (List.mem_of_mem_take hx))
  have bW : ∀ x ∈ lfW zs, 0 ≤ x ∧ x ≤ 255 := fun x hx => hb x (List.mem_of_mem_drop (List.mem_of_mem_take hx))
  have g1 : 0 ≤ zs.getD 1 0 := by
    have := hb (zs.getD 1 0) (by simp [List.getD, (by omega : 1 < zs.length)])
    omega
  have hE : lfEnd zs = lfAt zs + 1 + (zs.getD (lfAt zs) 0).toNat := rfl
  have hA : lfAt zs = 2 + (zs.getD 1 0).toNat := rfl
  have g2 : 0 ≤ zs.getD (lfAt zs) 0 := by
    have := hb (zs.getD (lfAt zs) 0) (by simp [List.getD, (by omega : lfAt zs < zs.length)])
    omega
  refine ⟨hok, ?_⟩
  unfold loginB
  rw [str_length, str_length, numsOf_str bU, numsOf_str bW, l1, l2, Int.toNat_of_nonneg g1, Int.toNat_of_nonneg g2, hE, hA, take_login (by omega), h0, ← hA]
  rfl
end Go.Proofs.Yticlgmdmkomdbaa

/-
  HelloPick of the program and of the reference return the same plain function of the two lists: the first wanted method that the other side has, else 255. Conditions: both slices read as lists of integers.
-/
import Derived.Test.YticlgmdmkomdbaaMethods
namespace Go.Proofs.Yticlgmdmkomdbaa
open Go.RowKit

def pickTo (m : List Int) : List Int → Int
  | [] => 255
  | x :: r => if hasI m x = true then x else pickTo m r
def pickL (a m : List Int) : Int := if methodsOk a = true ∧ methodsOk m = true then pickTo m a else 255
def NoneTo (a m : List Int) (k : Nat) : Prop := ∀ j, j < k → hasI m (a.getD j 0) = false
theorem pick_at {m : List Int} : ∀ (a : List Int) (k : Nat), k < a.length → NoneTo a m k → hasI m (a.getD k 0) = true → pickTo m a = a.getD k 0
  | [], k, hk, _, _ => by simp at hk
  | x :: r, 0, _, _, h => by simp at h; simp [pickTo, h]
  | x :: r, k + 1, hk, hn, h => by
    have h0 := hn 0 (by omega)
    simp at h0
    simp [pickTo, h0]
    have := pick_at r k (by simpa using hk) (fun j hj => by simpa using hn (j + 1) (by omega)) (by simpa using h)
    simpa using this
theorem pick_none {m : List Int} : ∀ (a : List Int), NoneTo a m a.length → pickTo m a = 255
  | [], _ => rfl
  | x :: r, hn => by
    have h0 := hn 0 (by simp)
    simp at h0
    simp [pickTo, h0]
    exact pick_none r (fun j hj => by simpa using hn (j + 1) (by simpa using hj))
theorem pick_where {m : List Int} : ∀ (a : List Int), pickTo m a ≠ 255 → ∃ k, k < a.length ∧ NoneTo a m k ∧ a.getD k 0 = pickTo m a ∧ hasI m (pickTo m a) = true
  | [], h => absurd rfl h
  | x :: r, h => by
    cases hx : hasI m x
    · have e : pickTo m (x :: r) = pickTo m r := by simp [pickTo, hx]
      rw [e] at h ⊢
      obtain ⟨k, h1, h2, h3, h4⟩ := pick_where r h
      refine ⟨k + 1, by simpa using h1, ?_, by simpa using h3, h4⟩
      intro j hj
      cases j with
      | zero => simpa using hx
      | succ j => simpa using h2 j (by omega)
    · have e : pickTo m (x :: r) = x := by simp [pickTo, hx]
      rw [e]
      exact ⟨0, by simp, fun j hj => by omega, by simp, hx⟩
theorem pickL_ok {a m : List Int} (h1 : methodsOk a = true) (h2 : methodsOk m = true) : pickL a m = pickTo m a := by simp [pickL, h1, h2]
theorem pickL_not {a m : List Int} (h : methodsOk a = false ∨ methodsOk m = false) : pickL a m = 255 := by
  rcases h with h | h <;> simp [pickL, h]
theorem NoneTo.step {a m : List Int} {k : Nat} {y : Int} (h : NoneTo a m k) (hy : a.getD k 0 = y) (h2 : hasI m y = false) : NoneTo a m (k + 1) := fun j hj => by
  by_cases e : j = k
  · subst e; rw [hy]; exact h2
  · exact h j (by omega)

/-- One of the first k of a is in m. -/
def anyTo (a m : List Int) (k : Nat) : Bool := (List.range k).any fun j => hasI m (a.getD j 0)
theorem anyTo_succ (a m : List Int) (k : Nat) : anyTo a m (k + 1) = (anyTo a m k || hasI m (a.getD k 0)) := by
  unfold anyTo
  rw [List.range_succ, List.any_append]
  simp
theorem methods_in {a : List Int} (h : methodsOk a = true) {k : Nat} (hk : k < a.length) : a.getD k 0 ≤ 254 := by
  cases h2 : inR (a.getD k 0) 0 254
  · rw [methodsOk_not hk rfl (.inl h2)] at h; cases h
  · simp [inR] at h2; simpa using h2.2
theorem pick_any_iff {a m : List Int} (h1 : methodsOk a = true) (h2 : methodsOk m = true) : (pickL a m == 255) = !anyTo a m a.length := by
  rw [pickL_ok h1 h2]
  by_cases h : pickTo m a = 255
  · rw [h]
    have hn : anyTo a m a.length = false := by
      unfold anyTo
      rw [List.any_eq_false]
      intro j hj hm
      have hj' : j < a.length := List.mem_range.1 hj
      have hf : ∃ k, k ≤ j ∧ NoneTo a m k ∧ hasI m (a.getD k 0) = true := by
        clear h hj
        revert hm hj'
        induction j using Nat.strongRecOn with
        | _ j ih =>
          intro hm hj'
          by_cases hex : ∃ i, i < j ∧ hasI m (a.getD i 0) = true
          · obtain ⟨i, hi, him⟩ := hex
            obtain ⟨k, hk, r⟩ := ih i hi him (by omega)
            exact ⟨k, by omega, r⟩
          · refine ⟨j, Nat.le_refl _, fun i hi => ?_, hm⟩
            cases hc : hasI m (a.getD i 0)
            · rfl
            · exact absurd ⟨i, hi, hc⟩ hex
      obtain ⟨k, hk, hnk, hmk⟩ := hf
      have he := pick_at a k (by omega) hnk hmk
      have hb := methods_in h1 (k := k) (by omega)
      omega
    rw [hn]; rfl
  · obtain ⟨k, hk, _, he, hm⟩ := pick_where a h
    have hy : anyTo a m a.length = true := by
      unfold anyTo
      rw [List.any_eq_true]
      exact ⟨k, List.mem_range.2 hk, by rw [he]; exact hm⟩
    rw [hy]
    simpa using h

set_option maxHeartbeats 1000000 in
theorem impl_HelloPick_any (v u : Value) (a m : List Int) (w : World) (hv : Ints w 0 v a) (hu : Ints w 0 u m) :
    Calls Try.prog 35 #[v, u] w fun e w' => e = .returned (.int .i64 (pickL a m)) ∧ w = w' := by
  have HV := Lib.hid hv
  have HU := Lib.hid hu
  obtain ⟨A, c, rfl, hc, hm, hA⟩ := hv.open_
  cases h1 : methodsOk a
  · have HS : Hid (pickL a m = 255) := Lib.hid (pickL_not (.inl h1))
    clear hA hv hu
    go_enter Try.func35, Try.ntmps35
    go_wp2_with fail
    refine (areMethods_any _ a _ HV.out).mono ?_
    rintro e w' ⟨rfl, rfl⟩
    go_wp2_with fail
    go_ret
    exact ⟨ret_int HS.out.symm, rfl⟩
  · cases h2 : methodsOk m
    · have HS : Hid (pickL a m = 255) := Lib.hid (pickL_not (.inr h2))
      clear hA hv hu
      go_enter Try.func35, Try.ntmps35
      go_wp2_with fail
      refine (areMethods_any _ a _ HV.out).mono ?_
      rintro e w' ⟨rfl, rfl⟩
      go_wp2_with fail
      refine (areMethods_any _ m _ HU.out).mono ?_
      rintro e w' ⟨rfl, rfl⟩
      go_wp2_with fail
      go_ret
      exact ⟨ret_int HS.out.symm, rfl⟩
    · have HS : Hid (pickL a m = pickTo m a) := Lib.hid (pickL_ok h1 h2)
      clear hv hu
      go_enter Try.func35, Try.ntmps35
      go_wp2_with fail
      refine (areMethods_any _ a _ HV.out).mono ?_
      rintro e w' ⟨rfl, rfl⟩
      go_wp2_with fail
      refine (areMethods_any _ m _ HU.out).mono ?_
      rintro e w' ⟨rfl, rfl⟩
      go_wp2_with fail
      go_loop [17] (fun i => ∃ k : Nat, k ≤ a.length ∧ i = .int .i64 k ∧ Hid (NoneTo a m k)) (fun i => a.length - (intOf i).toNat)
      case atStart => exact ⟨0, Nat.zero_le _, rfl, Lib.hid (fun j hj => by omega)⟩
      case round =>
        obtain ⟨k, hk, rfl, HT⟩ := hrel
        by_cases hlt : k < a.length
        · obtain ⟨b, o, rfl, _, hb, hs⟩ := hA.resolve_left (fun h => by rw [h] at hlt; simp at hlt)
          have c1 := hs.int_at (j := k) hlt
          obtain ⟨y, hy⟩ : ∃ y, a.getD k 0 = y := ⟨_, rfl⟩
          rw [hy] at c1
          have hi : (k : Int) < (a.length : Int) := by omega
          clear hs hA
          cases h3 : hasI m y
          · have HN : Hid (NoneTo a m (k + 1)) := Lib.hid (HT.out.step hy h3)
            clear hy HT
            go_wp2_with (go_at_call 71; refine (Contains_any _ m _ _ HU.out).mono ?_; rintro e w' ⟨rfl, rfl⟩)
            go_round
            case rel => exact ⟨k + 1, by omega, by go_num, HN⟩
            case measure => simp [intOf]; omega
          · have HN : Hid (pickTo m a = y) := Lib.hid ((pick_at a k hlt HT.out (by rw [hy]; exact h3)).trans hy)
            clear hy HT
            go_wp2_with (go_at_call 71; refine (Contains_any _ m _ _ HU.out).mono ?_; rintro e w' ⟨rfl, rfl⟩)
            go_ret
            exact ⟨ret_int (by rw [HS.out, HN.out]), rfl⟩
        · have HN : Hid (pickTo m a = 255) := Lib.hid (pick_none a (fun j hj => HT.out j (by omega)))
          clear HT
          go_wp2_with fail
          go_ret
          exact ⟨ret_int (by rw [HS.out, HN.out]), rfl⟩
set_option maxHeartbeats 1000000 in
theorem spec_HelloPick_any (v u : Value) (a m : List Int) (w : World) (hv : Ints w 0 v a) (hu : Ints w 0 u m) :
    Calls Try.prog 36 #[v, u] w fun e w' => e = .returned (.int .i64 (pickL a m)) ∧ ∃ n, w' = w.drewN n := by
  have HV := Lib.hid hv
  have HU := Lib.hid hu
  obtain ⟨A, c, rfl, hc, hm, hA⟩ := hv.open_
  cases h1 : methodsOk a
  · have HS : Hid (pickL a m = 255) := Lib.hid (pickL_not (.inl h1))
    clear hA hv hu
    go_enter Try.func36, Try.ntmps36
    go_wp2_with fail
    refine (l5Ok_any _ a _ HV.out).mono ?_
    rintro e w' ⟨rfl, n1, rfl⟩
    go_wp2_with fail
    go_ret
    exact ⟨ret_int HS.out.symm, by first | exact ⟨_, rfl⟩ | exact ⟨_, World.drewN_drewN _ _ _⟩⟩
  · cases h2 : methodsOk m
    · have HS : Hid (pickL a m = 255) := Lib.hid (pickL_not (.inr h2))
      clear hA hv hu
      go_enter Try.func36, Try.ntmps36
      go_wp2_with fail
      refine (l5Ok_any _ a _ HV.out).mono ?_
      rintro e w' ⟨rfl, n1, rfl⟩
      go_wp2_with fail
      refine (l5Ok_any _ m _ (HU.out.drewN _)).mono ?_
      rintro e w' ⟨rfl, n2, rfl⟩
      go_wp2_with fail
      go_ret
      exact ⟨ret_int HS.out.symm, by first | exact ⟨_, rfl⟩ | exact ⟨_, World.drewN_drewN _ _ _⟩⟩
    · have HS : Hid (pickL a m = pickTo m a) := Lib.hid (pickL_ok h1 h2)
      clear hv hu
      go_enter Try.func36, Try.ntmps36
      go_wp2_with fail
      refine (l5Ok_any _ a _ HV.out).mono ?_
      rintro e w' ⟨rfl, n1, rfl⟩
      go_wp2_with fail
      refine (l5Ok_any _ m _ (HU.out.drewN _)).mono ?_
      rintro e w' ⟨rfl, n2, rfl⟩
      go_wp2_with fail
      go_loop [5] (fun i => ∃ k : Nat, k ≤ a.length ∧ i = .int .i64 k ∧ Hid (NoneTo a m k)) (fun i => a.length - (intOf i).toNat)
      case atStart => exact ⟨0, Nat.zero_le _, rfl, Lib.hid (fun j hj => by omega)⟩
      case round =>
        obtain ⟨k, hk, rfl, HT⟩ := hrel
        by_cases hlt : k < a.length
        · obtain ⟨b, o, rfl, _, hb, hs⟩ := hA.resolve_left (fun h => by rw [h] at hlt; simp at hlt)
          have c1 := hs.int_at (j := k) hlt
          obtain ⟨y, hy⟩ : ∃ y, a.getD k 0 = y := ⟨_, rfl⟩
          rw [hy] at c1
          have hi : (k : Int) < (a.length : Int) := by omega
          clear hs hA
          cases h3 : hasI m y
          · have HN : Hid (NoneTo a m (k + 1)) := Lib.hid (HT.out.step hy h3)
            clear hy HT
            go_wp2_with (go_at_call 73; refine (l5Has_any _ m _ _ (HU.out.drewN _)).mono ?_; rintro e w' ⟨rfl, rfl⟩)
            go_round
            case rel => exact ⟨k + 1, by omega, by go_num, HN⟩
            case measure => simp [intOf]; omega
          · have HN : Hid (pickTo m a = y) := Lib.hid ((pick_at a k hlt HT.out (by rw [hy]; exact h3)).trans hy)
            clear hy HT
            go_wp2_with (go_at_call 73; refine (l5Has_any _ m _ _ (HU.out.drewN _)).mono ?_; rintro e w' ⟨rfl, rfl⟩)
            go_ret
            exact ⟨ret_int (by rw [HS.out, HN.out]), by first | exact ⟨_, rfl⟩ | exact ⟨_, World.drewN_drewN _ _ _⟩⟩
        · have HN : Hid (pickTo m a = 255) := Lib.hid (pick_none a (fun j hj => HT.out j (by omega)))
          clear HT
          go_wp2_with fail
          go_ret
          exact ⟨ret_int (by rw [HS.out, HN.out]), by first | exact ⟨_, rfl⟩ | exact ⟨_, World.drewN_drewN _ _ _⟩⟩
end Go.Proofs.Yticlgmdmkomdbaa

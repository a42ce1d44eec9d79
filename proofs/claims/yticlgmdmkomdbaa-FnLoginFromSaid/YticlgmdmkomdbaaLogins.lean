/-
  A slice of logins: two texts each; the library's slices.Index and slices.Contains at logins, and whether a login is one of a list. Conditions: the strings are strings of the model.
-/
import Derived.Test.YticlgmdmkomdbaaLoginOk
import Derived.Test.YticlgmdmkomdbaaBlk
import Derived.Test.YticlgmdmkomdbaaSame
namespace Go.Proofs.Yticlgmdmkomdbaa
open Go.RowKit

/-- Logins as cells. -/
def lv (ls : List (ByteArray × ByteArray)) : List Value := ls.flatMap fun p => [.string p.1, .string p.2]
theorem lv_length (ls : List (ByteArray × ByteArray)) : (lv ls).length = ls.length * 2 := by
  induction ls with
  | nil => rfl
  | cons p r ih =>
    unfold lv at *
    rw [List.flatMap_cons, List.length_append, ih, List.length_cons]
    simp
    omega
theorem lv_get0 : ∀ (ls : List (ByteArray × ByteArray)) (j : Nat) (p : ByteArray × ByteArray), ls[j]? = some p → (lv ls)[j * 2]? = some (.string p.1) ∧ (lv ls)[j * 2 + 1]? = some (.string p.2)
  | [], j, p, h => by simp at h
  | q :: r, 0, p, h => by
    have : q = p := by simpa using h
    subst this
    exact ⟨rfl, rfl⟩
  | q :: r, j + 1, p, h => by
    have h' : r[j]? = some p := by simpa using h
    obtain ⟨h1, h2⟩ := lv_get0 r j p h'
    have e : lv (q :: r) = .string q.1 :: .string q.2 :: lv r := rfl
    rw [e, Nat.add_mul]
    exact ⟨h1, h2⟩
theorem lv_append (a b : List (ByteArray × ByteArray)) : lv (a ++ b) = lv a ++ lv b := by simp [lv]
/-- The slice value v reads as the logins ls. -/
def Logins (w : World) (lo : Nat) (v : Value) (ls : List (ByteArray × ByteArray)) : Prop := Sl w 31 2 lo v ls.length (lv ls)
theorem Logins.open_ {w : World} {lo : Nat} {v : Value} {ls : List (ByteArray × ByteArray)} (h : Logins w lo v ls) :
    ∃ A c, v = .slice A ls.length c ∧ ls.length ≤ c ∧ c ≤ 9223372036854775807 ∧ (ls = [] ∨ ∃ b o, A = some ⟨b, o, none⟩ ∧ lo ≤ b ∧ b < w.heap.size ∧ Seg w 31 b o (lv ls)) := by
  obtain ⟨hl, A, c, h1, h2, h3, h4⟩ := h
  refine ⟨A, c, h1, h2, by unfold maxLen at h3; omega, ?_⟩
  rcases h4 with h4 | ⟨b, o, h5, h6, h7⟩
  · left
    have : (lv ls).length = 0 := by rw [h4]; rfl
    rw [lv_length] at this
    exact List.eq_nil_of_length_eq_zero (by omega)
  · exact .inr ⟨b, o, h5, h6, h7.lt, h7⟩
theorem Logins.below {w w' : World} {lo : Nat} {v : Value} {ls : List (ByteArray × ByteArray)} (h : Logins w lo v ls) (hb : Below w.heap.size w w') : Logins w' lo v ls := Sl.below h hb
theorem Logins.alloc {w : World} {lo : Nat} {v : Value} {ls : List (ByteArray × ByteArray)} (h : Logins w lo v ls) (o : Obj) : Logins (w.alloc o) lo v ls := Sl.alloc h o
theorem Logins.drewN {w : World} {lo : Nat} {v : Value} {ls : List (ByteArray × ByteArray)} (h : Logins w lo v ls) (n : Nat) : Logins (w.drewN n) lo v ls := h

theorem Logins.lo0 {w : World} {lo : Nat} {v : Value} {ls : List (ByteArray × ByteArray)} (h : Logins w lo v ls) : Logins w 0 v ls := Sl.zero h
def sameP (p x : ByteArray × ByteArray) : Bool := p.1.toList == x.1.toList && p.2.toList == x.2.toList
theorem sameP_comm (p x : ByteArray × ByteArray) : sameP p x = sameP x p := by unfold sameP; rw [Bool.beq_comm (a := p.1.toList), Bool.beq_comm (a := p.2.toList)]
def hasP (ls : List (ByteArray × ByteArray)) (x : ByteArray × ByteArray) : Bool := ls.any fun p => sameP p x
theorem hasP_step {ls : List (ByteArray × ByteArray)} {k : Nat} {x y : ByteArray × ByteArray} (hy : ls[k]? = some y) (h : hasP (ls.take k) x = false) (hne : sameP y x = false) : hasP (ls.take (k + 1)) x = false := by
  unfold hasP at *
  have hk : k < ls.length := (List.getElem?_eq_some_iff.1 hy).1
  have he : ls[k] = y := (List.getElem?_eq_some_iff.1 hy).2
  rw [List.take_succ_eq_append_getElem hk, he, List.any_append, h]
  simp [hne]
theorem hasP_here {ls : List (ByteArray × ByteArray)} {k : Nat} {x y : ByteArray × ByteArray} (hy : ls[k]? = some y) (h : sameP y x = true) : hasP ls x = true := by
  unfold hasP
  rw [List.any_eq_true]
  exact ⟨y, List.mem_of_getElem? hy, h⟩
theorem hasP_all {ls : List (ByteArray × ByteArray)} {k : Nat} {x : ByteArray × ByteArray} (hk : ls.length ≤ k) (h : hasP (ls.take k) x = false) : hasP ls x = false := by
  rwa [List.take_of_length_le hk] at h
theorem Try.heldLogin : Try.prog.stoodInHeld 31 = false := by kernel_rfl
theorem Try.guardLogin : Try.prog.eqGuardType Try.prog.depth 31 = false := by kernel_rfl
theorem Try.structLogin : Try.prog.underlying 31 = some (.struct (Try.prog.fieldsOf 31)) := by kernel_rfl

set_option maxRecDepth 100000 in
theorem eq_login (a d x y : ByteArray) (W : World) : (binOp .eql 31 (.agg #[.string a, .string d]) (.agg #[.string x, .string y])).run Try.prog W = .ok (.bool (a.toList == x.toList && d.toList == y.toList)) W := by
  rw [run_eql_struct, show (10000 : Nat) = 9999 + 1 from rfl, run_equalIn_agg W 9999 31 _ _ Try.structLogin Try.heldLogin]
  simp [Program.fieldsOf, Try.underlying31, Op.eqFields, go_sem]
  by_cases h1 : a.toList = x.toList <;> by_cases h2 : d.toList = y.toList <;> simp [h1, h2]
set_option maxRecDepth 100000 in
set_option maxHeartbeats 1000000 in
theorem IndexP_any (v : Value) (ls : List (ByteArray × ByteArray)) (x y : ByteArray) (w : World) (hv : Logins w 0 v ls) :
    Calls Try.prog 89 #[v, .agg #[.string x, .string y]] w fun e w' => ∃ i, e = .returned (.int .i64 i) ∧ Hid (decide (0 ≤ i) = hasP ls (x, y)) ∧ Below w.heap.size w w' := by
  obtain ⟨A, c, rfl, hc, hm, hA⟩ := hv.open_
  obtain ⟨n, hx⟩ : ∃ n, ls.length = n := ⟨_, rfl⟩
  rw [hx] at hc ⊢
  clear hv
  have HX := Lib.hid hx
  clear hx
  have HB : Hid (∀ k, Below w.heap.size w ((w.alloc (.cells #[.string x, .string y] 31)).drewN k)) := Lib.hid fun k => below_drewN ((Below.refl _ _).alloc (Nat.le_refl _) _) k
  go_enter Try.func89, Try.ntmps89
  go_wp2
  go_loopw [8] (fun i wr => ∃ k q : Nat, k ≤ n ∧ i = .int .i64 k ∧ Hid (hasP (ls.take k) (x, y) = false) ∧ wr = (w.alloc (.cells #[.string x, .string y] 31)).drewN q) (fun i _ => n - (intOf i).toNat)
  case atStart => exact ⟨0, 0, Nat.zero_le _, rfl, Lib.hid (by simp [hasP]), rfl⟩
  case round =>
    obtain ⟨k, q, hk, rfl, HT, rfl⟩ := hrel
    by_cases hlt : k < n
    · obtain ⟨b, o, rfl, _, hb, hs⟩ := hA.resolve_left (fun h => by have := HX.out; rw [h] at this; simp at this; omega)
      have hkl : k < ls.length := by rw [HX.out]; exact hlt
      obtain ⟨p, hp⟩ : ∃ p, ls[k]? = some p := ⟨ls[k], List.getElem?_eq_getElem hkl⟩
      obtain ⟨g0, g1⟩ := lv_get0 ls k p hp
      have c0 := hs.cell g0
      have c1 := hs.cell g1
      have hi : (k : Int) < (n : Int) := by omega
      have hi0 : (0 : Int) ≤ (k : Int) := by omega
      obtain ⟨a, d⟩ := p
      simp only at c0 c1
      rw [← Nat.add_assoc] at c1
      clear hs hA g0 g1 hkl
      have g1 := Try.guardLogin
      obtain ⟨B, hB⟩ : ∃ B, (x.toList == a.toList && y.toList == d.toList) = B := ⟨_, rfl⟩
      have hB2 : sameP (a, d) (x, y) = B := by rw [sameP_comm, ← hB]; rfl
      have g2 := fun W => eq_login x y a d W
      rw [hB] at g2
      clear hB
      cases B
      · have HS : Hid (hasP (ls.take (k + 1)) (x, y) = false) := Lib.hid (hasP_step hp HT.out hB2)
        clear hp HT hB2
        go_wp2
        go_quiet (fail)
        go_wp2
        go_roundw
        case rel => exact ⟨k + 1, _, by omega, by go_num, HS, by first | exact rfl | exact World.drewN_drewN _ _ _⟩
        case measure => simp [intOf]; omega
      · have HS : Hid (hasP ls (x, y) = true) := Lib.hid (hasP_here hp hB2)
        clear hp HT hB2
        go_wp2
        go_quiet (fail)
        go_wp2
        go_ret
        exact ⟨_, rfl, Lib.hid (by rw [HS.out]; simp), by first | exact HB.out _ | (rw [World.drewN_drewN]; exact HB.out _)⟩
    · have HS : Hid (hasP ls (x, y) = false) := Lib.hid (hasP_all (k := k) (by rw [HX.out]; omega) HT.out)
      clear HT
      go_wp2
      go_ret
      exact ⟨_, rfl, Lib.hid (by rw [HS.out]; simp), HB.out _⟩

theorem ContainsP_any (v : Value) (ls : List (ByteArray × ByteArray)) (x y : ByteArray) (w : World) (hv : Logins w 0 v ls) :
    Calls Try.prog 67 #[v, .agg #[.string x, .string y]] w fun e w' => e = .returned (.bool (hasP ls (x, y))) ∧ Below w.heap.size w w' := by
  have HV := Lib.hid hv
  clear hv
  have B0 := Lib.hid ((Below.refl w.heap.size w).alloc (Nat.le_refl _) (.cells #[.string x, .string y] 31))
  go_enter Try.func67, Try.ntmps67
  go_wp2_with fail
  refine (IndexP_any _ ls x y _ (HV.out.alloc _)).mono ?_
  rintro e w1 ⟨i, rfl, hi, b1⟩
  have B1 := Lib.hid (B0.out.trans (b1.mono (by simp)))
  clear b1
  go_wp2_with fail
  go_ret
  exact ⟨ret_bool hi.out, B1.out⟩

def fitsL (ls : List (ByteArray × ByteArray)) (x y : ByteArray) : Bool := loginOk x y && hasP ls (x, y)
theorem impl_LoginFits_any (v : Value) (ls : List (ByteArray × ByteArray)) (x y : ByteArray) (w : World) (hv : Logins w 0 v ls) (hx : x.size ≤ maxLen) (hy : y.size ≤ maxLen) :
    Calls Try.prog 32 #[v, .agg #[.string x, .string y]] w fun e w' => e = .returned (.bool (fitsL ls x y)) ∧ Below w.heap.size w w' := by
  have HV := Lib.hid hv
  have HX := Lib.hid hx
  have HY := Lib.hid hy
  clear hv hx hy
  have K0 := Lib.hid (Blk.new w 31 #[.string x, .string y])
  have B0 := Lib.hid ((Below.refl w.heap.size w).alloc (Nat.le_refl _) (.cells #[.string x, .string y] 31))
  cases h : loginOk x y
  · have E : Hid (fitsL ls x y = false) := Lib.hid (by rw [fitsL, h]; rfl)
    go_enter Try.func32, Try.ntmps32
    go_wp2_with fail
    refine (isLogin_any x y _ HX.out HY.out).mono ?_
    rintro e w1 ⟨rfl, b1⟩
    rw [h]
    have B1 := Lib.hid (B0.out.trans (b1.mono (by simp)))
    clear b1 h
    go_wp2_with fail
    go_ret
    exact ⟨ret_bool E.out.symm, B1.out⟩
  · have E : Hid (fitsL ls x y = hasP ls (x, y)) := Lib.hid (by rw [fitsL, h]; rfl)
    go_enter Try.func32, Try.ntmps32
    go_wp2_with fail
    refine (isLogin_any x y _ HX.out HY.out).mono ?_
    rintro e w1 ⟨rfl, b1⟩
    rw [h]
    have K1 := K0.out.kept b1
    have a0 : w1.cell? ⟨w.heap.size, 0, none⟩ = some (.string x) := K1.cell 0
    have a1 : w1.cell? ⟨w.heap.size, 1, none⟩ = some (.string y) := K1.cell 1
    have B1 := Lib.hid (B0.out.trans (b1.mono (by simp)))
    have V1 := Lib.hid ((HV.out.alloc (.cells #[.string x, .string y] 31)).below b1)
    clear b1 h K1
    go_wp2_with fail
    refine (ContainsP_any _ ls x y _ V1.out).mono ?_
    rintro e w2 ⟨rfl, b2⟩
    have B2 := Lib.hid (B1.out.trans (b2.mono B1.out.size))
    clear b2
    go_wp2_with fail
    go_ret
    exact ⟨ret_bool E.out.symm, B2.out⟩

set_option maxRecDepth 100000 in
set_option maxHeartbeats 2000000 in
theorem spec_LoginFits_any (v : Value) (ls : List (ByteArray × ByteArray)) (x y : ByteArray) (w : World) (hv : Logins w 0 v ls) (hx : x.size ≤ maxLen) (hy : y.size ≤ maxLen) :
    Calls Try.prog 33 #[v, .agg #[.string x, .string y]] w fun e w' => e = .returned (.bool (fitsL ls x y)) ∧ Below w.heap.size w w' := by
  have HV := Lib.hid (hv.alloc (.cells #[.string x, .string y] 31))
  have HX := Lib.hid hx
  have HY := Lib.hid hy
  obtain ⟨A, c, rfl, hc, hm, hA⟩ := hv.open_
  obtain ⟨n, hn⟩ : ∃ n, ls.length = n := ⟨_, rfl⟩
  have HN := Lib.hid hn
  rw [hn] at hc ⊢
  clear hv hx hy hn
  have K0 := Lib.hid (Blk.new w 31 #[.string x, .string y])
  have B0 : Hid (∀ wr, Below (w.heap.size + 1) (w.alloc (.cells #[.string x, .string y] 31)) wr → Below w.heap.size w wr) := Lib.hid fun wr h =>
    ((Below.refl w.heap.size w).alloc (Nat.le_refl _) (.cells #[.string x, .string y] 31)).trans (h.mono (Nat.le_succ _))
  have HA := Lib.hid hA
  clear hA
  go_enter Try.func33, Try.ntmps33
  go_wp2_with fail
  go_loopw [5] (fun i wr => ∃ k : Nat, k ≤ n ∧ i = .int .i64 k ∧ Hid (hasP (ls.take k) (x, y) = false) ∧ Hid (Below (w.heap.size + 1) (w.alloc (.cells #[.string x, .string y] 31)) wr)) (fun i _ => n - (intOf i).toNat)
  case atStart => exact ⟨0, Nat.zero_le _, rfl, Lib.hid (by simp [hasP]), Lib.hid (Below.refl _ _)⟩
  case round =>
    obtain ⟨k, hk, rfl, HT, HB⟩ := hrel
    have Kr := K0.out.below HB.out (Nat.lt_succ_self _)
    have a0 : wr.cell? ⟨w.heap.size, 0, none⟩ = some (.string x) := Kr.cell 0
    have a1 : wr.cell? ⟨w.heap.size, 1, none⟩ = some (.string y) := Kr.cell 1
    have KR := Lib.hid Kr
    clear Kr
    by_cases hlt : k < n
    · have hki : (k : Int) < (n : Int) := by omega
      go_wp2_with fail
      refine (l11Ok_any x y _ HX.out HY.out).mono ?_
      rintro e w2 ⟨rfl, b2⟩
      have HB2 : Hid (Below (w.heap.size + 1) (w.alloc (.cells #[.string x, .string y] 31)) w2) := Lib.hid (HB.out.trans (b2.mono (by have := KR.out.lt; omega)))
      have K2 := KR.out.kept b2
      have d0 : w2.cell? ⟨w.heap.size, 0, none⟩ = some (.string x) := K2.cell 0
      have d1 : w2.cell? ⟨w.heap.size, 1, none⟩ = some (.string y) := K2.cell 1
      clear b2 K2 a0 a1 KR HB
      cases hok : loginOk x y
      · have E : Hid (fitsL ls x y = false) := Lib.hid (by rw [fitsL, hok]; rfl)
        clear hok
        go_wp2_with fail
        go_ret
        exact ⟨ret_bool E.out.symm, B0.out _ HB2.out⟩
      · have E : Hid (fitsL ls x y = hasP ls (x, y)) := Lib.hid (by rw [fitsL, hok]; rfl)
        obtain ⟨b, o, rfl, _, hb, hs⟩ := HA.out.resolve_left (fun h => by have := HN.out; rw [h] at this; simp at this; omega)
        have hkl : k < ls.length := by rw [HN.out]; exact hlt
        obtain ⟨p, hp⟩ : ∃ p, ls[k]? = some p := ⟨ls[k], List.getElem?_eq_getElem hkl⟩
        obtain ⟨g0, g1⟩ := lv_get0 ls k p hp
        have hs2 := (hs.alloc (.cells #[.string x, .string y] 31)).below HB2.out (by omega)
        have c0 := hs2.cell g0
        have c1 := hs2.cell g1
        have hi0 : (0 : Int) ≤ (k : Int) := by omega
        obtain ⟨a, d⟩ := p
        simp only at c0 c1
        rw [← Nat.add_assoc] at c1
        have q1 := Try.guardLogin
        obtain ⟨B, hB⟩ : ∃ B, (a.toList == x.toList && d.toList == y.toList) = B := ⟨_, rfl⟩
        have hB2 : sameP (a, d) (x, y) = B := by rw [← hB]; rfl
        have q2 := fun W => eq_login a d x y W
        rw [hB] at q2
        clear hB hs hs2 g0 g1 hkl hok
        cases B
        · have HS : Hid (hasP (ls.take (k + 1)) (x, y) = false) := Lib.hid (hasP_step hp HT.out hB2)
          clear hp HT hB2
          go_wp2_with fail
          go_quiet (fail)
          go_wp2_with fail
          go_roundw
          case rel => exact ⟨k + 1, by omega, by go_num, HS, Lib.hid (below_drewN HB2.out _)⟩
          case measure => simp [intOf]; omega
        · have HS : Hid (hasP ls (x, y) = true) := Lib.hid (hasP_here hp hB2)
          clear hp HT hB2
          go_wp2_with fail
          go_quiet (fail)
          go_wp2_with fail
          go_ret
          exact ⟨ret_bool (by rw [E.out, HS.out]), B0.out _ (below_drewN HB2.out _)⟩
    · have HS : Hid (fitsL ls x y = false) := Lib.hid (by rw [fitsL, hasP_all (k := k) (by rw [HN.out]; omega) HT.out, Bool.and_false])
      go_wp2_with fail
      go_ret
      exact ⟨ret_bool HS.out.symm, B0.out _ HB.out⟩
end Go.Proofs.Yticlgmdmkomdbaa

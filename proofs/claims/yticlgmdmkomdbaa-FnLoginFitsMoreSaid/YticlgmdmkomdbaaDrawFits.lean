/-
  Rows of logins that a call makes and appends to; the drawn list of logins beside a login. Conditions: none.
-/
import Derived.Test.YticlgmdmkomdbaaDrawLogin
import Derived.Test.YticlgmdmkomdbaaLoginsArg
namespace Go.Proofs.Yticlgmdmkomdbaa
open Go.RowKit

/-- v is a slice of logins that the call owns. -/
def OwnP (w : World) (base : Nat) (v : Value) (ls : List (ByteArray × ByteArray)) : Prop := w.ownsRow base 31 2 v ls.length (lv ls)
theorem OwnP.logins {w : World} {base : Nat} {v : Value} {ls : List (ByteArray × ByteArray)} (h : OwnP w base v ls) : Logins w base v ls := Sl.of_own h
theorem OwnP.alloc {w : World} {base : Nat} {v : Value} {ls : List (ByteArray × ByteArray)} (h : OwnP w base v ls) (o : Obj) : OwnP (w.alloc o) base v ls := World.ownsRow.alloc h o
theorem OwnP.drew {w : World} {base : Nat} {v : Value} {ls : List (ByteArray × ByteArray)} (h : OwnP w base v ls) : OwnP w.drew base v ls := h
theorem Logins.drew {w : World} {lo : Nat} {v : Value} {ls : List (ByteArray × ByteArray)} (h : Logins w lo v ls) : Logins w.drew lo v ls := h
theorem OwnP.keep {w w' : World} {base : Nat} {v : Value} {ls : List (ByteArray × ByteArray)} {row : Option Nat} (h : OwnP w base v ls) (hg : w.grownBy w' row) (hne : v.ownBlock = none ∨ v.ownBlock ≠ row) : OwnP w' base v ls := World.ownsRow.kept h hg hne
theorem OwnP.below {w w' : World} {base : Nat} {v : Value} {ls : List (ByteArray × ByteArray)} (h : OwnP w base v ls) (hb : Below w.heap.size w w') : OwnP w' base v ls :=
  World.ownsRow.kept (row := none) h ⟨hb.os, hb.tape, hb.output, hb.size, fun k hk _ => hb.block k hk⟩ (by cases v.ownBlock <;> simp)
theorem Rd6.ownP {w w' : World} {hi g p base : Nat} {v : Value} {ls : List (ByteArray × ByteArray)} (hr : Rd6 w hi g p) (h : OwnP w base v ls) (hg : w.grownBy w' (some g)) : OwnP w' base v ls := by
  obtain ⟨_, v', bs, hh, _⟩ := hr
  refine h.keep hg ?_
  rcases h.2 with ⟨rfl, _⟩ | ⟨g', cap, cur', rfl, _, hh', _⟩
  · exact .inl rfl
  · right
    intro he
    have : g' = g := by simpa [Value.ownBlock] using he
    subst this
    rw [hh] at hh'
    injection hh' with hh'
    injection hh' with _ ht
    exact absurd ht (by decide)
theorem Rd6.appendP {w w' : World} {hi g p base : Nat} {v : Value} {ls : List (ByteArray × ByteArray)} (hr : Rd6 w hi g p) (h : OwnP w base v ls) (hg : w.grownBy w' v.ownBlock) (hb : hi ≤ base) : Rd6 w' hi g p := by
  have hlt := hr.lt
  have h1 := hr.1
  refine hr.keep (hg.block g hlt ?_) fun b hb' => hg.block b (by omega) ?_
  · intro he
    obtain ⟨_, v', bs, hh, _⟩ := hr
    rcases h.2 with ⟨rfl, _⟩ | ⟨g', cap, cur, rfl, _, hh', _⟩
    · simp [Value.ownBlock] at he
    · have : g = g' := by simpa [Value.ownBlock] using he
      subst this
      rw [hh] at hh'
      injection hh' with hh'
      injection hh' with _ ht
      exact absurd ht (by decide)
  · intro he
    have := (World.ownsRow.lt h b he.symm).1
    omega
theorem OwnP.lit (w : World) (ls : List (ByteArray × ByteArray)) (base : Nat) (hb : base ≤ w.heap.size) (hm : ls.length ≤ 9223372036854775807) :
    OwnP (w.alloc (.cells (lv ls).toArray 31)) base (.slice (some ⟨w.heap.size, 0, none⟩) ls.length ls.length) ls := by
  have h := World.ownsRow_lit (base := base) (e := 31) (size := 2) w (lv ls).toArray ls.length hb (by unfold maxLen; omega) (by simp [lv_length])
  simpa [OwnP] using h
theorem litP0 {W : World} {g base : Nat} (hg : g = W.heap.size) (hb : base ≤ W.heap.size) : OwnP (W.alloc (.cells #[] 31)) base (.slice (some ⟨g, 0, none⟩) 0 0) [] := by
  subst hg
  exact OwnP.lit W [] base hb (by simp)
theorem litP1 {W : World} {g base : Nat} (x y : ByteArray) (hg : g = W.heap.size) (hb : base ≤ W.heap.size) : OwnP (W.alloc (.cells #[.string x, .string y] 31)) base (.slice (some ⟨g, 0, none⟩) 1 1) [(x, y)] := by
  subst hg
  exact OwnP.lit W [(x, y)] base hb (by simp)
theorem OwnP.form {w : World} {base : Nat} {v : Value} {ls : List (ByteArray × ByteArray)} (h : OwnP w base v ls) : ∃ A c, v = .slice A ls.length c ∧ c ≤ 9223372036854775807 ∧ ls.length ≤ c ∧ (ls = [] ∨ ∃ b, A = some ⟨b, 0, none⟩ ∧ base ≤ b ∧ b < w.heap.size ∧ Seg w 31 b 0 (lv ls)) := by
  rcases h.2 with ⟨rfl, h0⟩ | ⟨g, cap, cur, rfl, hb, hh, hnc, hcm, _, ht⟩
  · exact ⟨none, 0, by rw [h0], by omega, by omega, .inl (List.eq_nil_of_length_eq_zero h0)⟩
  · refine ⟨_, cap, rfl, by unfold maxLen at hcm; omega, hnc, .inr ⟨g, rfl, hb, (Array.getElem?_eq_some_iff.1 hh).1, cur, hh, fun j u hu => ?_⟩⟩
    rw [← ht, List.getElem?_take] at hu
    split at hu
    · simpa using hu
    · cases hu
theorem below_ownP {base : Nat} {w w' : World} {v : Value} {ls : List (ByteArray × ByteArray)} (h : OwnP w base v ls) (hg : w.grownBy w' v.ownBlock) (hb : base ≤ w.heap.size) : Below base w w' :=
  (Below.refl base w).grown hg hb fun k hk => (World.ownsRow.lt h k hk).1
theorem lv_oneCell (ls : List (ByteArray × ByteArray)) : ∀ x ∈ lv ls, x.oneCell' = true := by
  intro x hx
  unfold lv at hx
  rw [List.mem_flatMap] at hx
  obtain ⟨p, _, hp⟩ := hx
  simp at hp
  rcases hp with rfl | rfl <;> rfl
/-- 'append(s, x...)' of logins, s the call's own. -/
theorem wp_logins {w : World} {ops : Array Oper} {rest : List Oper} {o : Oper} {a : Act} {Q : Exit → Act → World → Prop} (hgd : o.guard = none) (s x : Operand)
    (ho : o.op = .call { callee := .builtin .append, args := #[s, x], argTypes := #[29, 29] })
    {base : Nat} {v u : Value} {zs ys : List (ByteArray × ByteArray)} (hs : a.eval s = v) (hx : a.eval x = u) (hown : OwnP w base v zs) (hr : Logins w 0 u ys)
    (hlen : zs.length + ys.length ≤ 1099511627776) (hbase : base ≤ w.heap.size)
    (h : ∀ v' w', OwnP w' base v' (zs ++ ys) → Below base w w' → w.grownBy w' v.ownBlock → wpList Try.prog ops Q rest (a.put o.dst v') w') : wpList Try.prog ops Q (o :: rest) a w := by
  obtain ⟨i0, hi, hz0, hz1, hz2⟩ := info_parts Try.infoLogin
  refine wpList_plain hgd fun _ hK => wp_append_sl w s x 29 ho base 31 i0 _ 2 32 Try.underlying29 hi hz0 hz1 hz2 rfl (by omega) v zs.length (lv zs) hs hown 0 u ys.length (lv ys) hx hr (lv_oneCell ys)
    (by unfold maxLen; omega) (by omega) hbase fun v' w' h2 h3 _ => hK _ _ (h v' w' ?_ (below_ownP hown h3 hbase) h3)
  unfold OwnP
  rw [lv_append, List.length_append]
  exact h2
/-- The same inside a region that draws its order. -/
theorem step_logins {w : World} {ops : Array Oper} {o : Oper} {a : Act} {K : Act → World → Prop} {Q : Exit → Act → World → Prop} {E : Prop} (hgd : o.guard = none) (s x : Operand)
    (ho : o.op = .call { callee := .builtin .append, args := #[s, x], argTypes := #[29, 29] })
    {base : Nat} {v u : Value} {zs ys : List (ByteArray × ByteArray)} (hs : a.eval s = v) (hx : a.eval x = u) (hown : OwnP w base v zs) (hr : Logins w 0 u ys)
    (hlen : zs.length + ys.length ≤ 1099511627776) (hbase : base ≤ w.heap.size)
    (h : ∀ v' w', OwnP w' base v' (zs ++ ys) → Below base w w' → w.grownBy w' v.ownBlock → K (a.put o.dst v') w') :
    if Region.wanted o (yielded ops a.tmps) = true then Oper.wp Try.prog o a w K Q else E := by
  have hw : Region.wanted o (yielded ops a.tmps) = true := by simp [Region.wanted, hgd]
  rw [if_pos hw]
  obtain ⟨i0, hi, hz0, hz1, hz2⟩ := info_parts Try.infoLogin
  refine wp_append_sl w s x 29 ho base 31 i0 _ 2 32 Try.underlying29 hi hz0 hz1 hz2 rfl (by omega) v zs.length (lv zs) hs hown 0 u ys.length (lv ys) hx hr (lv_oneCell ys)
    (by unfold maxLen; omega) (by omega) hbase fun v' w' h2 h3 _ => h v' w' ?_ (below_ownP hown h3 hbase) h3
  unfold OwnP
  rw [lv_append, List.length_append]
  exact h2

theorem Logins.more {w : World} {lo lo' : Nat} {v : Value} {ls : List (ByteArray × ByteArray)} (h : Logins w lo v ls) (hlo : lo' ≤ lo) : Logins w lo' v ls := by
  obtain ⟨hl, A, c, h1, h2, h3, h4⟩ := h
  refine ⟨hl, A, c, h1, h2, h3, ?_⟩
  rcases h4 with h4 | ⟨b, o, h5, h6, h7⟩
  · exact .inl h4
  · exact .inr ⟨b, o, h5, Nat.le_trans hlo h6, h7⟩
/-- A store into a block ahead of the own row. -/
theorem OwnP.far {w : World} {base g i : Nat} {v : Value} {ls : List (ByteArray × ByteArray)} (h : OwnP w base v ls) (u : Value) (hg : g < base) : OwnP (w.setCell ⟨g, i, none⟩ u) base v ls := by
  refine h.keep (only_setCell (p := ⟨g, i, none⟩) (World.grownBy.refl w (some g)) (.inl rfl) _) ?_
  rcases h.2 with ⟨rfl, _⟩ | ⟨g', cap, cur', rfl, hb, hh', _⟩
  · exact .inl rfl
  · right
    intro he
    have : g' = g := by simpa [Value.ownBlock] using he
    omega

def SmallP (ls : List (ByteArray × ByteArray)) : Prop := ∀ p ∈ ls, p.1.size ≤ 9 ∧ p.2.size ≤ 9
theorem SmallP.snoc {ls : List (ByteArray × ByteArray)} {x y : ByteArray} (h : SmallP ls) (hx : x.size ≤ 9) (hy : y.size ≤ 9) : SmallP (ls ++ [(x, y)]) := by
  intro p hp
  rw [List.mem_append] at hp
  rcases hp with hp | hp
  · exact h p hp
  · have : p = (x, y) := by simpa using hp
    subst this
    exact ⟨hx, hy⟩
/-- A draw of a place in the list of logins. -/
theorem pickLogin_any (hi g p B b k c : Nat) (ls : List (ByteArray × ByteArray)) (w : World) (hr : Rd6 w hi g p) (ho : OwnP w (B + 1) (.slice (some ⟨b, 0, none⟩) k c) ls) (hb : Blk w B 31 #[.string .empty, .string .empty])
    (hl : ls.length = k) (hs : SmallP ls) (hp : p ≤ 1048576) (hk9 : k ≤ 1000) (hgB : B < g) (hk : (0 : Int) < (k : Int)) :
    Calls Try.prog 64 #[.pointer (some ⟨g, 0, none⟩), .int .i64 (k : Int)] w fun e w' => ∃ (j : Nat) (s1 s2 : ByteArray), e = .returned (.int .i64 (j : Int)) ∧ (0 : Int) ≤ (j : Int) ∧ (j : Int) < (k : Int) ∧
      w'.cell? ⟨b, j * 2, none⟩ = some (.string s1) ∧ w'.cell? ⟨b, j * 2 + 1, none⟩ = some (.string s2) ∧ s1.size ≤ 9 ∧ s2.size ≤ 9 ∧ w'.cell? ⟨B, 0, none⟩ = some (.string .empty) ∧ w'.cell? ⟨B, 1, none⟩ = some (.string .empty) ∧
      w'.frozen? ⟨B, 0, none⟩ = false ∧ w'.frozen? ⟨B, 1, none⟩ = false ∧ Hid (OwnP w' (B + 1) (.slice (some ⟨b, 0, none⟩) k c) ls) ∧ Hid (w.grownBy w' (some g)) := by
  refine (pick_any hi g p (k : Int) _ hr hp (by omega)).mono ?_
  rintro e w4 ⟨x4, rfl, hx4, r4, g4⟩
  obtain ⟨j, rfl, hj⟩ := pick_nat (n := k) (by omega) hx4
  have O4 := hr.ownP ho g4
  have K4 := hb.grown g4 (by intro h; injection h with h; omega)
  obtain ⟨A, c', he, _, _, hA⟩ := O4.form
  injection he with e1 e2 e3
  subst e1
  obtain ⟨b', e4, _, _, hseg⟩ := hA.resolve_left (fun h => by rw [h] at hl; simp at hl; omega)
  injection e4 with e4
  injection e4 with e4
  subst e4
  have hjl : j < ls.length := by rw [hl]; exact hj
  obtain ⟨q, hq⟩ : ∃ q, ls[j]? = some q := ⟨ls[j], List.getElem?_eq_getElem hjl⟩
  obtain ⟨g0, g1⟩ := lv_get0 ls j q hq
  have c0 := hseg.cell g0
  have c1 := hseg.cell g1
  rw [Nat.zero_add] at c0 c1
  have hq9 := hs q (List.mem_of_getElem? hq)
  exact ⟨j, q.1, q.2, rfl, by omega, by omega, c0, c1, hq9.1, hq9.2, K4.cell 0, K4.cell 1, K4.free 0, K4.free 1, Lib.hid O4, Lib.hid g4⟩

/-- Behind the draw of a list of logins and a login. -/
def DrewFits (w : World) (e : Ending) (w' : World) : Prop :=
  ∃ v ls x y, e = .returned (.tuple #[v, .agg #[.string x, .string y]]) ∧ Logins w' w.heap.size v ls ∧ ls.length ≤ 3 ∧ x.size ≤ 9 ∧ y.size ≤ 9 ∧ Below w.heap.size w w'

set_option maxRecDepth 100000 in
set_option maxHeartbeats 4000000 in
theorem DrawLoginFits_any (v : Value) (bs : List Int) (w : World) (hv : Came .u8 w w.heap.size v bs) : Calls Try.prog 31 #[v] w fun e w' => DrewFits w e w' := by
  go_enter Try.func31, Try.ntmps31
  go_wp2_with fail
  refine (l6Open_any _ bs w.heap.size _ (hv.keep fun b hb => Below.heap_alloc w _ b hb) (by simp)).mono ?_
  rintro e w1 ⟨rfl, r1, b1⟩
  simp only [World.size_alloc] at r1 b1 ⊢
  have K1 := Lib.hid ((Blk.new w 31 #[.string .empty, .string .empty]).below b1 (Nat.lt_succ_self _))
  have R1 := Lib.hid r1
  have B1 : Hid (Below w.heap.size w w1) := Lib.hid (((Below.refl _ _).alloc (Nat.le_refl _) _).trans (b1.mono (Nat.le_succ _)))
  have z1 := b1.size
  simp at z1
  clear r1 b1 hv
  go_wp2_with fail
  refine (pick_any w.heap.size (w.heap.size + 1) 0 4 _ (R1.out.alloc _) (by omega) (by omega)).mono ?_
  rintro e w2 ⟨x, rfl, hx, r2, g2⟩
  obtain ⟨n, rfl, hn⟩ := pick_lit 4 rfl (by omega) hx
  have O2 : Hid (OwnP w2 (w.heap.size + 1) (.slice (some ⟨w1.heap.size, 0, none⟩) 0 0) []) := Lib.hid ((R1.out.alloc (.cells #[] 31)).ownP (litP0 rfl (by omega)) g2)
  have K2 := Lib.hid ((K1.out.alloc (.cells #[] 31)).grown g2 (by intro h; injection h with h; omega))
  have B2 := Lib.hid (below_only (B1.out.alloc B1.out.size (.cells #[] 31)) g2 (by simp; omega) (Nat.le_succ _))
  have R2 := Lib.hid r2
  clear r2 g2 hx K1 B1 R1
  go_wp2_with fail
  go_loopw [5, 7] (fun o i wr => ∃ (k : Nat) (ls : List (ByteArray × ByteArray)) (p : Nat), k ≤ n ∧ i = .int .i64 k ∧ Hid (OwnP wr (w.heap.size + 1) o ls) ∧ Hid (ls.length = k) ∧ Hid (SmallP ls) ∧ p ≤ 1 + 4 * k ∧ Hid (Rd6 wr w.heap.size (w.heap.size + 1) p) ∧ Hid (Blk wr w.heap.size 31 #[.string .empty, .string .empty]) ∧ Hid (Below w.heap.size w wr)) (fun _ i _ => n - (intOf i).toNat)
  case atStart => exact ⟨0, [], 1, Nat.zero_le _, rfl, O2, Lib.hid rfl, Lib.hid (fun p hp => by simp at hp), by omega, R2, K2, B2⟩
  case round =>
    obtain ⟨k, ls, p, hk, rfl, HO, HL, HS, hp, HR, HK, HB⟩ := hrel
    by_cases hlt : k < n
    · have hki : (k : Int) < (n : Int) := by omega
      go_wp2_with fail
      refine (l92Login_any w.heap.size (w.heap.size + 1) p _ HR.out (by omega)).mono ?_
      rintro e w3 ⟨s1, s2, p3, rfl, hs1, hs2, hp3, r3, g3⟩
      have O3 := Lib.hid (HR.out.ownP HO.out g3)
      have K3 := Lib.hid (HK.out.grown g3 (by intro h; injection h with h; omega))
      have hz := HR.out.lt
      have B3 := Lib.hid (below_only HB.out g3 (by omega) (Nat.le_succ _))
      have R3 := Lib.hid r3
      have S3 := Lib.hid (HS.out.snoc hs1 hs2)
      have L3 : Hid ((ls ++ [(s1, s2)]).length = k + 1) := Lib.hid (by rw [List.length_append, HL.out]; rfl)
      have z3 := g3.size
      clear r3 g3 HO HK HB HR
      go_wp2_with (at_builtin; refine wp_logins rfl (.tmp 18) (.tmp 21) rfl rfl rfl (O3.out.alloc _) (litP1 s1 s2 rfl (Nat.zero_le _)).logins (by rw [HL.out]; simp; omega) (by simp; omega) ?_; intro v4 w4 o4 b4 g4)
      go_roundw
      case rel =>
        refine ⟨k + 1, _, p3, by omega, by go_num, Lib.hid o4, L3, S3, by omega, Lib.hid ((R3.out.alloc _).appendP (O3.out.alloc _) g4 (Nat.le_succ _)), Lib.hid ((K3.out.alloc _).below b4 (Nat.lt_succ_self _)), Lib.hid ((B3.out.alloc B3.out.size _).trans (b4.mono (Nat.le_succ _)))⟩
      case measure => simp [intOf]; omega
    · have hkn : k = n := by omega
      subst hkn
      have hlen : ls.length ≤ 3 := by rw [HL.out]; omega
      clear O2 K2 B2 R2
      obtain ⟨A, c, rfl, hc, hlc, hA⟩ := HO.out.form
      have HLg := Lib.hid hlen
      have hz := HR.out.lt
      rw [HL.out] at hlc
      have hnil := HL.out
      rw [hnil]
      rw [hnil] at HO
      clear hlen hnil
      by_cases hn0 : k = 0
      · have hk0 : (k : Int) ≤ 0 := by omega
        clear hA
        go_wp2_with fail
        refine (l92Login_any w.heap.size (w.heap.size + 1) p _ HR.out (by omega)).mono ?_
        rintro e w3 ⟨s1, s2, p3, rfl, hs1, hs2, hp3, r3, g3⟩
        have O3 := Lib.hid (HR.out.ownP HO.out g3)
        have K3 := HK.out.grown g3 (by intro h; injection h with h; omega)
        have B3 := Lib.hid (below_only HB.out g3 (by omega) (Nat.le_succ _))
        have a0 : w3.cell? ⟨w.heap.size, 0, none⟩ = some (.string .empty) := K3.cell 0
        have a1 : w3.cell? ⟨w.heap.size, 1, none⟩ = some (.string .empty) := K3.cell 1
        have fa0 := K3.free 0
        have fa1 := K3.free 1
        clear r3 g3 K3 HK HO HB HR
        go_wp2_with fail
        refine bodyPost_ret (v := .tuple #[.slice A k c, .agg #[.string s1, .string s2]]) (by simp [results, Try.results31, go_sem, a0, a1]; omega) rfl ⟨_, ls, s1, s2, rfl, ?_, HLg.out, hs1, hs2, ?_⟩
        · exact (O3.out.far _ (Nat.lt_succ_self _)).far _ (Nat.lt_succ_self _) |>.logins |>.more (Nat.le_succ _)
        · exact (B3.out.setCell (p := ⟨w.heap.size, 0, none⟩) (Nat.le_refl _) _).setCell (p := ⟨w.heap.size, 1, none⟩) (Nat.le_refl _) _
      · have hk0 : (0 : Int) < (k : Int) := by omega
        obtain ⟨b, rfl, hb1, hb2, hseg⟩ := hA.resolve_left (fun h => by have := HL.out; rw [h] at this; simp at this; omega)
        clear hb2 hseg
        go_wp2_with fail
        refine (pick_any w.heap.size (w.heap.size + 1) p 2 _ HR.out (by omega) (by omega)).mono ?_
        rintro e w3 ⟨x3, rfl, _, r3, g3⟩
        have O3 := Lib.hid (HR.out.ownP HO.out g3)
        have K3 := Lib.hid (HK.out.grown g3 (by intro h; injection h with h; omega))
        have B3 := Lib.hid (below_only HB.out g3 (by omega) (Nat.le_succ _))
        have R3 := Lib.hid r3
        have z3 := g3.size
        clear r3 g3 HO HK HB HR
        by_cases hx3 : x3 = 0
        · subst hx3
          go_wp2_with fail
          go_region_with (go_at_call 64; refine (pickLogin_any w.heap.size (w.heap.size + 1) (p + 1) w.heap.size b k c ls w3.drew R3.out O3.out K3.out HL.out HS.out (by omega) (by omega) (by omega) hk0).mono ?_; rintro e w4 ⟨j, s1, s2, rfl, hj0, hj1, c0, c1, hs1, hs2, a0, a1, fa0, fa1, O4, G4⟩)
          all_goals
            have B4 := Lib.hid (below_only B3.out.drew G4.out (by show w.heap.size ≤ w3.heap.size; omega) (Nat.le_succ _))
            clear G4
            go_wp2_with fail
            refine bodyPost_ret (v := .tuple #[.slice (some ⟨b, 0, none⟩) k c, .agg #[.string s1, .string s2]]) (by simp [results, Try.results31, go_sem, a0, a1]) rfl ⟨_, ls, s1, s2, rfl, ?_, HLg.out, hs1, hs2, ?_⟩
            · exact (O4.out.far _ (Nat.lt_succ_self _)).far _ (Nat.lt_succ_self _) |>.logins |>.more (Nat.le_succ _)
            · exact (B4.out.setCell (p := ⟨w.heap.size, 0, none⟩) (Nat.le_refl _) _).setCell (p := ⟨w.heap.size, 1, none⟩) (Nat.le_refl _) _
        · have hx0 : (x3 == 0) = false := by simpa using hx3
          clear hx3
          go_wp2_with fail
          refine (l92Login_any w.heap.size (w.heap.size + 1) (p + 1) _ R3.out (by omega)).mono ?_
          rintro e w4 ⟨s1, s2, p4, rfl, hs1, hs2, hp4, r4, g4⟩
          have O4 := Lib.hid (R3.out.ownP O3.out g4)
          have K4 := K3.out.grown g4 (by intro h; injection h with h; omega)
          have B4 := Lib.hid (below_only B3.out g4 (by omega) (Nat.le_succ _))
          have a0 : w4.cell? ⟨w.heap.size, 0, none⟩ = some (.string .empty) := K4.cell 0
          have a1 : w4.cell? ⟨w.heap.size, 1, none⟩ = some (.string .empty) := K4.cell 1
          have fa0 := K4.free 0
          have fa1 := K4.free 1
          clear r4 g4 K4 K3 O3 B3 R3
          go_wp2_with fail
          refine bodyPost_ret (v := .tuple #[.slice (some ⟨b, 0, none⟩) k c, .agg #[.string s1, .string s2]]) (by simp [results, Try.results31, go_sem, a0, a1]) rfl ⟨_, ls, s1, s2, rfl, ?_, HLg.out, hs1, hs2, ?_⟩
          · exact (O4.out.far _ (Nat.lt_succ_self _)).far _ (Nat.lt_succ_self _) |>.logins |>.more (Nat.le_succ _)
          · exact (B4.out.setCell (p := ⟨w.heap.size, 0, none⟩) (Nat.le_refl _) _).setCell (p := ⟨w.heap.size, 1, none⟩) (Nat.le_refl _) _
end Go.Proofs.Yticlgmdmkomdbaa

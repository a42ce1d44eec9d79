/-
  The append of one slice of integers to another that the call owns, nil and empty sources included, and the literal slices, as steps of a walk. Conditions: the sum of the lengths stays below 2^40.
  Two slices that two calls own lie apart; what came in stays. Conditions: none.
  What a call leaves that returns a list of bytes and whether it is there. Conditions: none.
  The library's slices.Clone at integers returns the same list in memory of the call's own. Conditions: the slice reads as a list of integers of at most 2^20 elements.
  A region that draws its order, whose operations but the last ones only read: the draw taken first, the world under one name. Conditions: the region's order is forced behind its reads.
-/
import Derived.Test.YtpcflkdeoafpeaaDoorBase
import Derived.Test.YtpcflkdeoafpeaaDoorProg
import Derived.Maps.AppendAt
import Derived.RegionTactic
import Derived.WalkSpells
import Derived.StillTailTactics
namespace Go.Proofs.YtpcflkdeoafpeaaDoor
open Go.RowKit

section
variable {P : Program} (w : World)

theorem run_append_of_nil (base : Nat) (t ty e : TypeId) (i : TypeInfo) (size : Nat) (ht : P.underlying t = some (.slice e)) (hi : P.info? e = some i)
    (v : Value) (n : Nat) (xs : List Value) (hown : w.ownsRow base e size v n xs) (c : Nat) : (Builtin.append_ #[t, t] ty #[v, .slice none 0 c]).run P w = .ok v w := by
  rcases hown.2 with ⟨rfl, rfl⟩ | ⟨g, cap, cur, rfl, _, _, hnc, _⟩
  · simp [Builtin.append_, run_underlying ht, sizeOf, typeInfo, hi, Builtin.lenOf, Builtin.firstCells]
  · simp [Builtin.append_, run_underlying ht, sizeOf, typeInfo, hi, Builtin.lenOf, Builtin.firstCells, hnc, storeCells]

theorem run_append_sl (base : Nat) (t ty e : TypeId) (i : TypeInfo) (z : Value) (size bytes : Nat) (ht : P.underlying t = some (.slice e)) (hi : P.info? e = some i) (hz : i.zero = some z)
    (hsize : i.size = size) (hby : i.bytes = bytes) (hzs : z.cells.size = size) (hsz : 0 < size)
    (v : Value) (n : Nat) (xs : List Value) (hown : w.ownsRow base e size v n xs)
    (lo : Nat) (u : Value) (m : Nat) (news : List Value) (hr : Sl w e size lo u m news) (h1 : ∀ x ∈ news, x.oneCell' = true)
    (h63 : n + m ≤ maxLen) (hbytes : (n + m) * bytes ≤ 140737488355328) (hbase : base ≤ w.heap.size) :
    ∃ v' w', (Builtin.append_ #[t, t] ty #[v, u]).run P w = .ok v' w' ∧ w'.ownsRow base e size v' (n + m) (xs ++ news) ∧ w.grownBy w' v.ownBlock ∧
      (v'.ownBlock = v.ownBlock ∨ v'.ownBlock = some w.heap.size) := by
  obtain ⟨hl, A, c, rfl, hmc, hcm, hA⟩ := hr
  rcases A with _ | ad
  · have hn : news = [] := by
      rcases hA with h | ⟨b, o, h, _⟩
      · exact h
      · cases h
    subst hn
    have hm : m = 0 := by
      rcases Nat.eq_zero_or_pos m with h0 | h0
      · exact h0
      · have := Nat.mul_pos h0 hsz
        simp at hl
        omega
    subst hm
    exact ⟨v, w, run_append_of_nil w base t ty e i size ht hi v n xs hown c, by simpa using hown, World.grownBy.refl w _, .inl rfl⟩
  · have hcells : ∀ (j : Nat) (x : Value), news[j]? = some x → w.cell? (ad.add j) = some x := by
      intro j x hx
      rcases hA with h | ⟨b, o, h, _, hs⟩
      · subst h; simp at hx
      · injection h with h
        subst h
        have h2 := hs.cell hx
        have : (⟨b, o, none⟩ : Addr).add j = ⟨b, o + j, none⟩ := by
          unfold Addr.add
          split
          · next hj => subst hj; rfl
          · rfl
        rw [this]
        exact h2
    obtain ⟨v', w', hrun, h2, h3, _, h5⟩ := run_append_own_at (P := P) w base t ty e i z size bytes ht hi hz hsize hby hzs hsz v n xs hown ad m c news hl hcells h1 h63 hbytes hbase
    exact ⟨v', w', hrun, h2, h3, h5⟩

theorem wp_append_sl {o : Oper} {a : Act} {K : Act → World → Prop} {Q : Exit → Act → World → Prop} (s x : Operand) (t : TypeId)
    (ho : o.op = .call { callee := .builtin .append, args := #[s, x], argTypes := #[t, t] })
    (base : Nat) (e : TypeId) (i : TypeInfo) (z : Value) (size bytes : Nat) (ht : P.underlying t = some (.slice e)) (hi : P.info? e = some i) (hz : i.zero = some z)
    (hsize : i.size = size) (hby : i.bytes = bytes) (hzs : z.cells.size = size) (hsz : 0 < size)
    (v : Value) (n : Nat) (xs : List Value) (hs : a.eval s = v) (hown : w.ownsRow base e size v n xs)
    (lo : Nat) (u : Value) (m : Nat) (news : List Value) (hx : a.eval x = u) (hr : Sl w e size lo u m news) (h1 : ∀ x ∈ news, x.oneCell' = true)
    (h63 : n + m ≤ maxLen) (hbytes : (n + m) * bytes ≤ 140737488355328) (hbase : base ≤ w.heap.size)
    (h : ∀ v' w', w'.ownsRow base e size v' (n + m) (xs ++ news) → w.grownBy w' v.ownBlock → (v'.ownBlock = v.ownBlock ∨ v'.ownBlock = some w.heap.size) → K (a.put o.dst v') w') : o.wp P a w K Q := by
  obtain ⟨v', w', hrun, h2, h3, h4⟩ := run_append_sl (P := P) w base t o.type e i z size bytes ht hi hz hsize hby hzs hsz v n xs hown lo u m news hr h1 h63 hbytes hbase
  unfold Oper.wp execOp
  simp only [ho, resolve, invoke, builtin, Sem.run_bind, Sem.run_pure, Result.andThen_ok, List.map_toArray, List.map_cons, List.map_nil, hs, hx, hrun]
  exact h v' w' h2 h3 h4
end

/-- v is a slice of integers that the call owns, in a block from base on: nil or at its block's head. -/
def Own (w : World) (base : Nat) (v : Value) (zs : List Int) : Prop := w.ownsRow base 3 1 v zs.length (iv zs)
theorem Own.ints {w : World} {base : Nat} {v : Value} {zs : List Int} (h : Own w base v zs) : Ints w base v zs := Sl.of_own h
theorem Own.drewN {w : World} {base : Nat} {v : Value} {zs : List Int} (h : Own w base v zs) (n : Nat) : Own (w.drewN n) base v zs := h
theorem Own.drew {w : World} {base : Nat} {v : Value} {zs : List Int} (h : Own w base v zs) : Own w.drew base v zs := h
theorem Own.alloc {w : World} {base : Nat} {v : Value} {zs : List Int} (h : Own w base v zs) (o : Obj) : Own (w.alloc o) base v zs := World.ownsRow.alloc h o
theorem Own.nil_ (w : World) (base : Nat) : Own w base (.slice none 0 0) [] := World.ownsRow_nil w base 3 1
/-- No block of the own slice's kind has turned. -/
theorem Own.keep {w w' : World} {base : Nat} {v : Value} {zs : List Int} {row : Option Nat} (h : Own w base v zs) (hg : w.grownBy w' row) (hne : v.ownBlock = none ∨ v.ownBlock ≠ row) : Own w' base v zs := World.ownsRow.kept h hg hne
theorem Own.below {w w' : World} {base : Nat} {v : Value} {zs : List Int} (h : Own w base v zs) (hb : Below w.heap.size w w') : Own w' base v zs :=
  World.ownsRow.kept (row := none) h ⟨hb.os, hb.tape, hb.output, hb.size, fun k hk _ => hb.block k hk⟩ (by cases v.ownBlock <;> simp)
theorem Own.more {w : World} {base base' : Nat} {v : Value} {zs : List Int} (h : Own w base v zs) (hb : base' ≤ base) : Own w base' v zs := by
  refine ⟨h.1, ?_⟩
  rcases h.2 with h2 | ⟨g, cap, cur, e1, e2, r⟩
  · exact .inl h2
  · exact .inr ⟨g, cap, cur, e1, by omega, r⟩
/-- Another block, of another element type, has turned. -/
theorem Own.grown {w w' : World} {base g : Nat} {e' : TypeId} {v : Value} {zs : List Int} {cur : Array Value} (h : Own w base v zs) (hb : w.grownBy w' (some g)) (hg : w.heap[g]? = some (.cells cur e' (0, 0))) (hne : 3 ≠ e') : Own w' base v zs := by
  refine h.keep hb ?_
  rcases h.2 with ⟨rfl, _⟩ | ⟨g', cap, cur', rfl, _, hh, _⟩
  · exact .inl rfl
  · right
    intro he
    have : g' = g := by simpa [Value.ownBlock] using he
    subst this
    rw [hg] at hh
    injection hh with hh
    injection hh with _ ht
    exact hne ht.symm
theorem Own.len {w : World} {base : Nat} {v : Value} {zs : List Int} (h : Own w base v zs) : zs.length ≤ 9223372036854775807 := by
  obtain ⟨A, c, _, h1, h2, _⟩ := h.ints.open_
  omega
theorem Own.form {w : World} {base : Nat} {v : Value} {zs : List Int} (h : Own w base v zs) : ∃ A c, v = .slice A zs.length c ∧ c ≤ 9223372036854775807 ∧ zs.length ≤ c ∧ (zs = [] ∨ ∃ b, A = some ⟨b, 0, none⟩ ∧ base ≤ b ∧ b < w.heap.size) := by
  rcases h.2 with ⟨rfl, h0⟩ | ⟨g, cap, cur, rfl, hb, hh, hnc, hcm, _⟩
  · exact ⟨none, 0, by rw [h0], by omega, by omega, .inl (List.eq_nil_of_length_eq_zero h0)⟩
  · exact ⟨_, cap, rfl, by unfold maxLen at hcm; omega, hnc, .inr ⟨g, rfl, hb, (Array.getElem?_eq_some_iff.1 hh).1⟩⟩
theorem Own.cell {w : World} {base b c n : Nat} {zs : List Int} (h : Own w base (.slice (some ⟨b, 0, none⟩) n c) zs) {j : Nat} (hj : j < zs.length) : w.cell? ⟨b, j, none⟩ = some (.int .i64 (zs.getD j 0)) := by
  obtain ⟨A, c', he, _, _, hA⟩ := h.ints.open_
  injection he with e1 e2 e3
  subst e1
  obtain ⟨b', o', e4, _, _, hs⟩ := hA.resolve_left (fun h => by rw [h] at hj; simp at hj)
  injection e4 with e4
  injection e4 with e5 e6
  subst e5 e6
  have h1 := hs.int_at hj
  rwa [Nat.zero_add] at h1
theorem Own.frozen {w : World} {base b c n : Nat} {zs : List Int} (h : Own w base (.slice (some ⟨b, 0, none⟩) n c) zs) (j : Nat) : w.frozen? ⟨b, j, none⟩ = false := by
  rcases h.2 with ⟨h0, _⟩ | ⟨g, cap, cur, he, _, hh, _⟩
  · cases h0
  · injection he with e1
    injection e1 with e1
    injection e1 with e1
    subst e1
    exact frozen_of_row w b j cur _ hh
theorem Own.stored {w : World} {base b c j : Nat} {zs : List Int} (h : Own w base (.slice (some ⟨b, 0, none⟩) zs.length c) zs) (x : Int) : w.grownBy (w.setCell ⟨b, j, none⟩ (.int .i64 x)) (Value.slice (some ⟨b, 0, none⟩) zs.length c).ownBlock :=
  (World.ownsRow.stored h j (.int .i64 x)).2
/-- A cell of the own row is stored. -/
theorem Own.store {w : World} {base b c j : Nat} {zs : List Int} (h : Own w base (.slice (some ⟨b, 0, none⟩) zs.length c) zs) (x : Int) :
    Own (w.setCell ⟨b, j, none⟩ (.int .i64 x)) base (.slice (some ⟨b, 0, none⟩) zs.length c) (zs.set j x) := by
  have h1 := (World.ownsRow.stored h j (.int .i64 x)).1
  unfold Own
  rw [List.length_set, ← iv_set]
  exact h1
/-- A literal of integers that the walk has just built. -/
theorem Own.lit (w : World) (zs : List Int) (base : Nat) (hb : base ≤ w.heap.size) (hm : zs.length ≤ 9223372036854775807) :
    Own (w.alloc (.cells (iv zs).toArray 3)) base (.slice (some ⟨w.heap.size, 0, none⟩) zs.length zs.length) zs := by
  have h := World.ownsRow_lit (base := base) (e := 3) (size := 1) w (iv zs).toArray zs.length hb (by unfold maxLen; omega) (by simp [iv])
  simpa [Own] using h

theorem int_info : (Tryd.prog.info? 3).map (fun i => (i.zero, i.size, i.bytes)) = some (some (.int .i64 0), 1, 8) := by kernel_rfl

theorem below_own {base : Nat} {w w' : World} {v : Value} {zs : List Int} (h : Own w base v zs) (hg : w.grownBy w' v.ownBlock) (hb : base ≤ w.heap.size) : Below base w w' :=
  (Below.refl base w).grown hg hb fun k hk => (World.ownsRow.lt h k hk).1

/-- 'append(s, x...)' of integers, s the call's own. -/
theorem wp_ints {w : World} {ops : Array Oper} {rest : List Oper} {o : Oper} {a : Act} {Q : Exit → Act → World → Prop} (hgd : o.guard = none) (s x : Operand)
    (ho : o.op = .call { callee := .builtin .append, args := #[s, x], argTypes := #[25, 25] })
    {base : Nat} {v u : Value} {zs ys : List Int} (hs : a.eval s = v) (hx : a.eval x = u) (hown : Own w base v zs) (hr : Ints w 0 u ys)
    (hlen : zs.length + ys.length ≤ 1099511627776) (hbase : base ≤ w.heap.size)
    (h : ∀ v' w', Own w' base v' (zs ++ ys) → Below base w w' → w.grownBy w' v.ownBlock → (v'.ownBlock = v.ownBlock ∨ v'.ownBlock = some w.heap.size) → wpList Tryd.prog ops Q rest (a.put o.dst v') w') : wpList Tryd.prog ops Q (o :: rest) a w := by
  obtain ⟨i0, hi, hz0, hz1, hz2⟩ := info_parts int_info
  refine wpList_plain hgd fun _ hK => wp_append_sl w s x 25 ho base 3 i0 _ 1 8 Tryd.underlying25 hi hz0 hz1 hz2 rfl (by omega) v zs.length (iv zs) hs hown 0 u ys.length (iv ys) hx hr (ints_oneCell .i64 ys)
    (by unfold maxLen; omega) (by omega) hbase fun v' w' h2 h3 h4 => hK _ _ (h v' w' ?_ (below_own hown h3 hbase) h3 h4)
  unfold Own
  rw [iv_append, List.length_append]
  exact h2

/-- The same inside a region that draws its order ('go_region_law', 'go_region_held3'). -/
theorem step_ints {w : World} {ops : Array Oper} {o : Oper} {a : Act} {K : Act → World → Prop} {Q : Exit → Act → World → Prop} {E : Prop} (hgd : o.guard = none) (s x : Operand)
    (ho : o.op = .call { callee := .builtin .append, args := #[s, x], argTypes := #[25, 25] })
    {base : Nat} {v u : Value} {zs ys : List Int} (hs : a.eval s = v) (hx : a.eval x = u) (hown : Own w base v zs) (hr : Ints w 0 u ys)
    (hlen : zs.length + ys.length ≤ 1099511627776) (hbase : base ≤ w.heap.size)
    (h : ∀ v' w', Own w' base v' (zs ++ ys) → Below base w w' → w.grownBy w' v.ownBlock → (v'.ownBlock = v.ownBlock ∨ v'.ownBlock = some w.heap.size) → K (a.put o.dst v') w') :
    if Region.wanted o (yielded ops a.tmps) = true then Oper.wp Tryd.prog o a w K Q else E := by
  have hw : Region.wanted o (yielded ops a.tmps) = true := by simp [Region.wanted, hgd]
  rw [if_pos hw]
  obtain ⟨i0, hi, hz0, hz1, hz2⟩ := info_parts int_info
  refine wp_append_sl w s x 25 ho base 3 i0 _ 1 8 Tryd.underlying25 hi hz0 hz1 hz2 rfl (by omega) v zs.length (iv zs) hs hown 0 u ys.length (iv ys) hx hr (ints_oneCell .i64 ys)
    (by unfold maxLen; omega) (by omega) hbase fun v' w' h2 h3 h4 => h v' w' ?_ (below_own hown h3 hbase) h3 h4
  unfold Own
  rw [iv_append, List.length_append]
  exact h2
theorem lit1 (w : World) (y : Int) : Ints (w.alloc (.cells #[.int .i64 y] 3)) 0 (.slice (some ⟨w.heap.size, 0, none⟩) 1 1) [y] := (Own.lit w [y] 0 (Nat.zero_le _) (by simp)).ints
/-- A row of one number. -/
theorem Own.one {w : World} {base : Nat} {u : Value} {x : Int} (h : Own w base u [x]) :
    ∃ b c, u = .slice (some ⟨b, 0, none⟩) 1 c ∧ w.cell? ⟨b, 0, none⟩ = some (.int .i64 x) ∧ c ≤ 9223372036854775807 ∧ 1 ≤ c ∧ base ≤ b ∧ b < w.heap.size := by
  obtain ⟨A, c, rfl, h1, h2, hA⟩ := h.form
  obtain ⟨b, rfl, hb, hb2⟩ := hA.resolve_left (by simp)
  have hc := h.cell (j := 0) (by simp)
  exact ⟨b, c, rfl, by simpa using hc, h1, h2, hb, hb2⟩
theorem Own.store_ {w : World} {base b n c j : Nat} {zs : List Int} (h : Own w base (.slice (some ⟨b, 0, none⟩) n c) zs) (hn : zs.length = n) (x : Int) : Own (w.setCell ⟨b, j, none⟩ (.int .i64 x)) base (.slice (some ⟨b, 0, none⟩) n c) (zs.set j x) := by
  subst hn
  exact h.store x
end Go.Proofs.YtpcflkdeoafpeaaDoor
namespace Go.Proofs.YtpcflkdeoafpeaaDoor
open Go.RowKit

/-- The later one is none of the earlier one's. -/
theorem Own.past {w1 w2 : World} {b0 : Nat} {u v : Value} {us vs : List Int} (hu : Own w1 b0 u us) (hv : Own w2 w1.heap.size v vs) : v.ownBlock = none ∨ v.ownBlock ≠ u.ownBlock := by
  cases hb : v.ownBlock with
  | none => exact .inl rfl
  | some k =>
    right
    intro he
    have h1 := (World.ownsRow.lt hv k hb).1
    have h2 := (World.ownsRow.lt hu k he.symm).2
    omega
theorem Own.ahead {w1 w2 : World} {b0 : Nat} {u v : Value} {us vs : List Int} (hu : Own w1 b0 u us) (hv : Own w2 w1.heap.size v vs) : u.ownBlock = none ∨ u.ownBlock ≠ v.ownBlock := by
  cases hb : u.ownBlock with
  | none => exact .inl rfl
  | some k =>
    right
    intro he
    have h1 := (World.ownsRow.lt hu k hb).2
    have h2 := (World.ownsRow.lt hv k he.symm).1
    omega
/-- A block that is older than a slice stays when the slice is written. -/
theorem Own.older {w w' : World} {b0 g n : Nat} {v : Value} {zs : List Int} (hv : Own w b0 v zs) (hg : (w.drewN n).grownBy w' v.ownBlock) (hlt : g < b0) (hw : g < w.heap.size) : w'.heap[g]? = w.heap[g]? := by
  refine hg.block g hw ?_
  intro he
  have := (World.ownsRow.lt hv g he.symm).1
  omega
theorem Came.below {k : IntKind} {w w' : World} {hi : Nat} {v : Value} {zs : List Int} (h : Came k w hi v zs) (hb : Below hi w w') : Came k w' hi v zs := h.keep fun b hb' => hb.block b hb'
theorem Own.far {w : World} {base B i : Nat} {v : Value} {zs : List Int} (h : Own w base v zs) (hb : B < base) (u : Value) : Own (w.setCell ⟨B, i, none⟩ u) base v zs := by
  refine h.keep (only_setCell (p := ⟨B, i, none⟩) (World.grownBy.refl w (some B)) (.inl rfl) u) ?_
  cases hv : v.ownBlock with
  | none => exact .inl rfl
  | some k =>
    right
    intro he
    have h1 := (World.ownsRow.lt h k hv).1
    have : k = B := by simpa using he
    omega
theorem Own.farN {w : World} {base B i : Nat} {v : Value} {zs : List Int} (h : Own w base v zs) (hb : v.ownBlock ≠ some B) (u : Value) : Own (w.setCell ⟨B, i, none⟩ u) base v zs :=
  h.keep (only_setCell (p := ⟨B, i, none⟩) (World.grownBy.refl w (some B)) (.inl rfl) u) (.inr hb)
end Go.Proofs.YtpcflkdeoafpeaaDoor
namespace Go.Proofs.YtpcflkdeoafpeaaDoor
open Go.RowKit

/-- A list of bytes that may fail: the slice, and whether it is there. -/
def Gave (w : World) (zs : List Int) (ok : Bool) (e : Ending) (w' : World) : Prop :=
  ∃ v, e = .returned (.tuple #[v, .bool ok]) ∧ Own w' w.heap.size v zs ∧ Below w.heap.size w w'
end Go.Proofs.YtpcflkdeoafpeaaDoor
namespace Go.Proofs.YtpcflkdeoafpeaaDoor
open Go.RowKit

end Go.Proofs.YtpcflkdeoafpeaaDoor
namespace Go.Proofs.YtpcflkdeoafpeaaDoor
open Go.RowKit

theorem region_tail {P : Program} {id : Nat} {Q : Exit → Act → World → Prop} {a : Act} {w : World} {l : List Oper} (n : Nat) (hm : P.follows .mixedOrders = true) (hB : Region.lexTailB .any l.toArray n = true)
    (h : wpStill P l.toArray w.drew (fun a' => wpList P l.toArray Q (l.drop n) a' w.drew) (l.take n) a) : (Code.region id l.toArray true).wp P Q a w := wp_region_still_tail n hm hB h

/-- 's[p:p+n]' of a slice of integers, by the two values that the model gives: where p is the capacity, and elsewhere. -/
theorem Ints.cutEnd {w : World} {p n : Nat} {A : Option Addr} (zs : List Int) (hn : n = 0) : Ints w 0 (.slice A n 0) ((zs.drop p).take n) := by
  subst hn
  rw [List.take_zero]
  exact Ints.none_ w 0 A 0 (by omega)
theorem Ints.cutMap {w : World} {lo p n c : Nat} {A : Option Addr} {zs : List Int} (h : Ints w lo (.slice A zs.length c) zs) (hn : p + n ≤ zs.length) :
    Ints w 0 (.slice (Option.map (fun x => x.add p) A) n (c - p)) ((zs.drop p).take n) := by
  obtain ⟨A', c', he, hc, hm, hA⟩ := h.open_
  injection he with e1 e2 e3
  subst e1 e3
  rcases hA with h0 | ⟨b, o, rfl, _, _, hs⟩
  · have hn0 : n = 0 := by rw [h0] at hn; simp at hn; omega
    subst hn0
    rw [List.take_zero]
    exact Ints.none_ w 0 _ _ (by omega)
  · simp only [Option.map_some, addr_add]
    exact Ints.part hs hn (by omega) (by omega)
end Go.Proofs.YtpcflkdeoafpeaaDoor

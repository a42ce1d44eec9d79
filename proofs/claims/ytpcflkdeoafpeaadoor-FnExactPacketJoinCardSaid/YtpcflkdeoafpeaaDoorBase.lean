/-
  The words for memory that all walks of this seat share: a segment of a block that is known, a slice that reads as a list, and what keeps them. Conditions: none; nothing of the program is named but the alias.
-/
import Derived.WalkKit
import Derived.ProofKit
import Derived.Below
import Derived.Laws.OwnMore
import Derived.Deep.AppendLies
import Derived.Deep.Draws
import Derived.OwnWalk
import Derived.Lib.Hide
namespace Go.Proofs.YtpcflkdeoafpeaaDoor
open Go.RowKit

theorem addr_add (b o j : Nat) : (⟨b, o, none⟩ : Addr).add j = ⟨b, o + j, none⟩ := by
  unfold Addr.add
  split
  · next hj => subst hj; rfl
  · rfl

/-- Block b is made of cells of type e, none frozen, and holds the list xs from place o on. -/
def Seg (w : World) (e : TypeId) (b o : Nat) (xs : List Value) : Prop :=
  ∃ cur, w.heap[b]? = some (.cells cur e (0, 0)) ∧ ∀ (j : Nat) (u : Value), xs[j]? = some u → cur[o + j]? = some u

/-- The address A leads to the cells xs, in a block from lo on; of an empty list nothing is said. -/
def Ref (w : World) (e : TypeId) (lo : Nat) (A : Option Addr) (xs : List Value) : Prop :=
  xs = [] ∨ ∃ b o, A = some ⟨b, o, none⟩ ∧ lo ≤ b ∧ Seg w e b o xs

/-- The slice value v has n elements, which are the cells xs, in a block from lo on. -/
def Sl (w : World) (e : TypeId) (sz lo : Nat) (v : Value) (n : Nat) (xs : List Value) : Prop :=
  xs.length = n * sz ∧ ∃ A c, v = .slice A n c ∧ n ≤ c ∧ c ≤ maxLen ∧ Ref w e lo A xs

theorem Seg.lt {w : World} {e : TypeId} {b o : Nat} {xs : List Value} (h : Seg w e b o xs) : b < w.heap.size := by
  obtain ⟨cur, hc, _⟩ := h
  exact (Array.getElem?_eq_some_iff.1 hc).1

theorem Seg.cell {w : World} {e : TypeId} {b o : Nat} {xs : List Value} (h : Seg w e b o xs) {j : Nat} {u : Value} (hu : xs[j]? = some u) : w.cell? ⟨b, o + j, none⟩ = some u := by
  obtain ⟨cur, hc, hx⟩ := h
  rw [cell_of_row w b (o + j) cur e (0, 0) hc]
  exact hx j u hu

theorem Seg.frozen {w : World} {e : TypeId} {b o : Nat} {xs : List Value} (h : Seg w e b o xs) (j : Nat) : w.frozen? ⟨b, j, none⟩ = false := by
  obtain ⟨cur, hc, _⟩ := h
  exact frozen_of_row w b j cur e hc

/-- Blocks of two element types are two blocks. -/
theorem Seg.ne_ {w : World} {e e' : TypeId} {b b' o o' : Nat} {xs ys : List Value} (h : Seg w e b o xs) (h' : Seg w e' b' o' ys) (hne : e ≠ e') : b ≠ b' := by
  rintro rfl
  obtain ⟨cur, hc, _⟩ := h
  obtain ⟨cur', hc', _⟩ := h'
  rw [hc] at hc'
  injection hc' with hc'
  injection hc' with _ ht
  exact hne ht

theorem Seg.keep {w w' : World} {e : TypeId} {b o : Nat} {xs : List Value} (h : Seg w e b o xs) (hk : w'.heap[b]? = w.heap[b]?) : Seg w' e b o xs := by
  obtain ⟨cur, hc, hx⟩ := h
  exact ⟨cur, hk.trans hc, hx⟩

theorem Seg.below {w w' : World} {e : TypeId} {b o B : Nat} {xs : List Value} (h : Seg w e b o xs) (hb : Below B w w') (hB : b < B) : Seg w' e b o xs := h.keep (hb.block b hB)
theorem Seg.grown {w w' : World} {e : TypeId} {b o : Nat} {row : Option Nat} {xs : List Value} (h : Seg w e b o xs) (hb : w.grownBy w' row) (hne : some b ≠ row) : Seg w' e b o xs := h.keep (hb.block b h.lt hne)
theorem Seg.alloc {w : World} {e : TypeId} {b o : Nat} {xs : List Value} (h : Seg w e b o xs) (x : Obj) : Seg (w.alloc x) e b o xs := h.keep (Below.heap_alloc w x b h.lt)
theorem Seg.drewN {w : World} {e : TypeId} {b o : Nat} {xs : List Value} (h : Seg w e b o xs) (n : Nat) : Seg (w.drewN n) e b o xs := h
theorem Seg.drew {w : World} {e : TypeId} {b o : Nat} {xs : List Value} (h : Seg w e b o xs) : Seg w.drew e b o xs := h
theorem Seg.far {w : World} {e : TypeId} {b o : Nat} {xs : List Value} (h : Seg w e b o xs) {p : Addr} (hp : b ≠ p.block) (u : Value) : Seg (w.setCell p u) e b o xs := h.keep (Below.heap_setCell w p u b hp)

theorem Seg.part {w : World} {e : TypeId} {b o k m : Nat} {xs : List Value} (h : Seg w e b o xs) : Seg w e b (o + k) ((xs.drop k).take m) := by
  obtain ⟨cur, hc, hx⟩ := h
  refine ⟨cur, hc, fun j u hu => ?_⟩
  rw [List.getElem?_take] at hu
  split at hu
  · rw [List.getElem?_drop] at hu
    rw [Nat.add_assoc]
    exact hx _ _ hu
  · cases hu

theorem Ref.more {w : World} {e : TypeId} {lo lo' : Nat} {A : Option Addr} {xs : List Value} (h : Ref w e lo A xs) (hl : lo' ≤ lo) : Ref w e lo' A xs := by
  rcases h with h | ⟨b, o, h1, h2, h3⟩
  · exact .inl h
  · exact .inr ⟨b, o, h1, by omega, h3⟩
theorem Ref.below {w w' : World} {e : TypeId} {lo : Nat} {A : Option Addr} {xs : List Value} (h : Ref w e lo A xs) (hb : Below w.heap.size w w') : Ref w' e lo A xs := by
  rcases h with h | ⟨b, o, h1, h2, h3⟩
  · exact .inl h
  · exact .inr ⟨b, o, h1, h2, h3.below hb h3.lt⟩
theorem Ref.keep {w w' : World} {e : TypeId} {lo : Nat} {A : Option Addr} {xs : List Value} (h : Ref w e lo A xs) (hk : ∀ b o, A = some ⟨b, o, none⟩ → Seg w e b o xs → w'.heap[b]? = w.heap[b]?) : Ref w' e lo A xs := by
  rcases h with h | ⟨b, o, h1, h2, h3⟩
  · exact .inl h
  · exact .inr ⟨b, o, h1, h2, h3.keep (hk b o h1 h3)⟩

theorem Sl.more {w : World} {e : TypeId} {sz lo lo' n : Nat} {v : Value} {xs : List Value} (h : Sl w e sz lo v n xs) (hl : lo' ≤ lo) : Sl w e sz lo' v n xs := by
  obtain ⟨h0, A, c, h1, h2, h3, h4⟩ := h
  exact ⟨h0, A, c, h1, h2, h3, h4.more hl⟩
theorem Sl.zero {w : World} {e : TypeId} {sz lo n : Nat} {v : Value} {xs : List Value} (h : Sl w e sz lo v n xs) : Sl w e sz 0 v n xs := h.more (Nat.zero_le _)
theorem Sl.below {w w' : World} {e : TypeId} {sz lo n : Nat} {v : Value} {xs : List Value} (h : Sl w e sz lo v n xs) (hb : Below w.heap.size w w') : Sl w' e sz lo v n xs := by
  obtain ⟨h0, A, c, h1, h2, h3, h4⟩ := h
  exact ⟨h0, A, c, h1, h2, h3, h4.below hb⟩
theorem Sl.drewN {w : World} {e : TypeId} {sz lo n : Nat} {v : Value} {xs : List Value} (h : Sl w e sz lo v n xs) (k : Nat) : Sl (w.drewN k) e sz lo v n xs := h
theorem Sl.drew {w : World} {e : TypeId} {sz lo n : Nat} {v : Value} {xs : List Value} (h : Sl w e sz lo v n xs) : Sl w.drew e sz lo v n xs := h
theorem Sl.alloc {w : World} {e : TypeId} {sz lo n : Nat} {v : Value} {xs : List Value} (h : Sl w e sz lo v n xs) (x : Obj) : Sl (w.alloc x) e sz lo v n xs :=
  h.below ((Below.refl _ _).alloc (Nat.le_refl _) x)
/-- One block of another element type has turned. -/
theorem Sl.grown {w w' : World} {e e' : TypeId} {sz lo n g : Nat} {v : Value} {xs : List Value} {cur : Array Value} (h : Sl w e sz lo v n xs) (hb : w.grownBy w' (some g)) (hg : w.heap[g]? = some (.cells cur e' (0, 0))) (hne : e ≠ e') : Sl w' e sz lo v n xs := by
  obtain ⟨h0, A, c, h1, h2, h3, h4⟩ := h
  refine ⟨h0, A, c, h1, h2, h3, h4.keep fun b o _ hs => hb.block b hs.lt ?_⟩
  intro he
  have hs' : Seg w e' g 0 [] := ⟨cur, hg, fun j u hu => by simp at hu⟩
  exact hs.ne_ hs' hne (by injection he)
theorem Sl.nil_ (w : World) (e : TypeId) (sz lo : Nat) : Sl w e sz lo (.slice none 0 0) 0 [] := ⟨by simp, none, 0, rfl, Nat.le_refl _, Nat.zero_le _, .inl rfl⟩

theorem Sl.of_own {w : World} {base : Nat} {e : TypeId} {sz n : Nat} {v : Value} {xs : List Value} (h : w.ownsRow base e sz v n xs) : Sl w e sz base v n xs := by
  refine ⟨h.1, ?_⟩
  rcases h.2 with ⟨rfl, rfl⟩ | ⟨g, cap, cur, rfl, hb, hh, hnc, hcm, _, ht⟩
  · exact ⟨none, 0, rfl, Nat.le_refl _, Nat.zero_le _, .inl (List.eq_nil_of_length_eq_zero (by simpa using h.1))⟩
  · refine ⟨_, _, rfl, hnc, hcm, .inr ⟨g, 0, rfl, hb, cur, hh, fun j u hu => ?_⟩⟩
    rw [← ht, List.getElem?_take] at hu
    split at hu
    · simpa using hu
    · cases hu

/-- The integers as cells. -/
def iv (zs : List Int) : List Value := zs.map (Value.int .i64)
theorem iv_length (zs : List Int) : (iv zs).length = zs.length := by simp [iv]
theorem iv_get {zs : List Int} {j : Nat} (h : j < zs.length) : (iv zs)[j]? = some (.int .i64 (zs.getD j 0)) := by simp [iv, List.getD, h]
theorem iv_nil {zs : List Int} : iv zs = [] ↔ zs = [] := by simp [iv]
theorem iv_append (xs ys : List Int) : iv (xs ++ ys) = iv xs ++ iv ys := by simp [iv]

theorem iv_set (zs : List Int) (j : Nat) (x : Int) : (iv zs).set j (.int .i64 x) = iv (zs.set j x) := by simp [iv, List.map_set]

/-- The slice value v reads as the integers zs, in a block from lo on. -/
def Ints (w : World) (lo : Nat) (v : Value) (zs : List Int) : Prop := Sl w 3 1 lo v zs.length (iv zs)

theorem Ints.more {w : World} {lo lo' : Nat} {v : Value} {zs : List Int} (h : Ints w lo v zs) (hl : lo' ≤ lo) : Ints w lo' v zs := Sl.more h hl
theorem Ints.zero {w : World} {lo : Nat} {v : Value} {zs : List Int} (h : Ints w lo v zs) : Ints w 0 v zs := Sl.zero h
theorem Ints.below {w w' : World} {lo : Nat} {v : Value} {zs : List Int} (h : Ints w lo v zs) (hb : Below w.heap.size w w') : Ints w' lo v zs := Sl.below h hb
theorem Ints.drewN {w : World} {lo : Nat} {v : Value} {zs : List Int} (h : Ints w lo v zs) (k : Nat) : Ints (w.drewN k) lo v zs := h
theorem Ints.drew {w : World} {lo : Nat} {v : Value} {zs : List Int} (h : Ints w lo v zs) : Ints w.drew lo v zs := h
theorem Ints.alloc {w : World} {lo : Nat} {v : Value} {zs : List Int} (h : Ints w lo v zs) (x : Obj) : Ints (w.alloc x) lo v zs := Sl.alloc h x
theorem Ints.grown {w w' : World} {e' : TypeId} {lo g : Nat} {v : Value} {zs : List Int} {cur : Array Value} (h : Ints w lo v zs) (hb : w.grownBy w' (some g)) (hg : w.heap[g]? = some (.cells cur e' (0, 0))) (hne : 3 ≠ e') : Ints w' lo v zs := Sl.grown h hb hg hne
theorem Ints.open_ {w : World} {lo : Nat} {v : Value} {zs : List Int} (h : Ints w lo v zs) :
    ∃ A c, v = .slice A zs.length c ∧ zs.length ≤ c ∧ c ≤ 9223372036854775807 ∧ (zs = [] ∨ ∃ b o, A = some ⟨b, o, none⟩ ∧ lo ≤ b ∧ b < w.heap.size ∧ Seg w 3 b o (iv zs)) := by
  obtain ⟨_, A, c, h1, h2, h3, h4⟩ := h
  refine ⟨A, c, h1, h2, by unfold maxLen at h3; omega, ?_⟩
  rcases h4 with h4 | ⟨b, o, h5, h6, h7⟩
  · exact .inl (iv_nil.1 h4)
  · exact .inr ⟨b, o, h5, h6, h7.lt, h7⟩
theorem Seg.int_at {w : World} {e : TypeId} {b o j : Nat} {zs : List Int} (h : Seg w e b o (iv zs)) (hj : j < zs.length) : w.cell? ⟨b, o + j, none⟩ = some (.int .i64 (zs.getD j 0)) := h.cell (iv_get hj)

/-- A part of a slice of integers, by the address that the walk writes. -/
theorem Ints.part {w : World} {b o c i m : Nat} {zs : List Int} (hs : Seg w 3 b o (iv zs)) (hk : i + m ≤ zs.length) (hc : m ≤ c) (hm : c ≤ 9223372036854775807) :
    Ints w 0 (.slice (some ⟨b, o + i, none⟩) m c) ((zs.drop i).take m) := by
  have hl : ((zs.drop i).take m).length = m := by simp; omega
  refine ⟨by simp [iv], some ⟨b, o + i, none⟩, c, by rw [hl], by omega, by unfold maxLen; omega, .inr ⟨b, o + i, rfl, Nat.zero_le _, ?_⟩⟩
  have h := hs.part (k := i) (m := m)
  simpa [iv] using h
theorem Ints.front {w : World} {b o c m : Nat} {zs : List Int} (hs : Seg w 3 b o (iv zs)) (hk : m ≤ zs.length) (hc : m ≤ c) (hm : c ≤ 9223372036854775807) :
    Ints w 0 (.slice (some ⟨b, o, none⟩) m c) (zs.take m) := by
  have h := Ints.part (i := 0) (m := m) hs (by omega) hc hm
  simpa using h
theorem Ints.none_ (w : World) (lo : Nat) (A : Option Addr) (c : Nat) (hc : c ≤ 9223372036854775807) : Ints w lo (.slice A 0 c) [] :=
  ⟨by simp [iv], A, c, rfl, Nat.zero_le _, by unfold maxLen; omega, .inl rfl⟩

theorem below_drewN {B : Nat} {a w : World} (h : Below B a w) (n : Nat) : Below B a (w.drewN n) := ⟨h.os, h.tape, h.output, h.size, h.block⟩
theorem only_drewN {a w : World} {row : Option Nat} (h : a.grownBy w row) (n : Nat) : a.grownBy (w.drewN n) row := ⟨h.os, h.tape, h.output, h.size, h.block⟩
theorem only_drew {a w : World} {row : Option Nat} (h : a.grownBy w row) : a.grownBy w.drew row := ⟨h.os, h.tape, h.output, h.size, h.block⟩
theorem only_alloc {a w : World} {row : Option Nat} (h : a.grownBy w row) (o : Obj) : a.grownBy (w.alloc o) row :=
  ⟨h.os, h.tape, h.output, Nat.le_trans h.size (by simp), fun i hi hne => (Below.heap_alloc w o i (Nat.lt_of_lt_of_le hi h.size)).trans (h.block i hi hne)⟩
theorem only_setCell {a w : World} {g : Nat} (h : a.grownBy w (some g)) {p : Addr} (hp : p.block = g ∨ a.heap.size ≤ p.block) (u : Value) : a.grownBy (w.setCell p u) (some g) :=
  ⟨h.os, h.tape, h.output, by simpa [World.setCell] using h.size, fun i hi hne => (Below.heap_setCell w p u i (by
    rintro rfl
    rcases hp with hp | hp
    · exact hne (by rw [hp])
    · omega)).trans (h.block i hi hne)⟩
theorem only_below {a b c : World} {row : Option Nat} (h : a.grownBy b row) (k : Below a.heap.size b c) : a.grownBy c row :=
  ⟨k.os.trans h.os, k.tape.trans h.tape, k.output.trans h.output, Nat.le_trans h.size k.size, fun i hi hne => (k.block i hi).trans (h.block i hi hne)⟩
theorem only_trans {a b c : World} {row : Option Nat} (h : a.grownBy b row) (k : b.grownBy c row) : a.grownBy c row :=
  ⟨k.os.trans h.os, k.tape.trans h.tape, k.output.trans h.output, Nat.le_trans h.size k.size, fun i hi hne => (k.block i (Nat.lt_of_lt_of_le hi h.size) hne).trans (h.block i hi hne)⟩
theorem below_only {B g : Nat} {a b c : World} (h : Below B a b) (k : b.grownBy c (some g)) (hB : B ≤ b.heap.size) (hg : B ≤ g) : Below B a c := h.grown k hB fun i hi => by injection hi with hi; omega
/-- Behind a call that only made memory: every older cell and mark. -/
theorem bcell {W w1 : World} (hb : Below W.heap.size W w1) : (∀ b o, b < W.heap.size → w1.cell? ⟨b, o, none⟩ = W.cell? ⟨b, o, none⟩) ∧ (∀ b o, b < W.heap.size → w1.frozen? ⟨b, o, none⟩ = W.frozen? ⟨b, o, none⟩) :=
  ⟨fun b o h => hb.cell (p := ⟨b, o, none⟩) h, fun b o h => hb.frozen (p := ⟨b, o, none⟩) h⟩

/-- A callee that leaves the world as it was, met inside a region that only reads. -/
theorem quiet_left {P : Program} {f : FuncId} {args : Array Value} {w : World} {n : Nat} {v : Value}
    (h : Calls P f args (w.drewN n) fun e w' => e = .returned v ∧ w.drewN n = w') : Calls P f args (w.drewN n) fun e w'' => e = .returned v ∧ ∃ m, w'' = w.drewN m :=
  h.mono fun _ _ ⟨he, hm⟩ => ⟨he, n, hm.symm⟩
theorem quiet_add_left {P : Program} {f : FuncId} {args : Array Value} {w : World} {a n : Nat} {v : Value}
    (h : Calls P f args (w.drewN (a + n)) fun e w' => e = .returned v ∧ w.drewN (a + n) = w') :
    Calls P f args (w.drewN (a + n)) fun e w'' => e = .returned v ∧ ∃ m, w'' = w.drewN (a + m) :=
  h.mono fun _ _ ⟨he, hm⟩ => ⟨he, n, hm.symm⟩

theorem ret_bool {a b : Bool} (h : a = b) : Ending.returned (.bool a) = .returned (.bool b) := by rw [h]
theorem ret_int {k : IntKind} {a b : Int} (h : a = b) : Ending.returned (.int k a) = .returned (.int k b) := by rw [h]

/-- WHAT THE WALK IS TOLD OF A SLICE THAT CAME IN (after the guide's own shell): nil, or a row of integers of kind k. -/
def IsRow (k : IntKind) (w : World) (a : Option Addr) (len cap : Nat) (zs : List Int) : Prop :=
  (a = none ∧ len = 0 ∧ cap = 0 ∧ zs = []) ∨
  ∃ x, a = some x ∧ len ≤ cap ∧ cap ≤ maxLen ∧ zs.length = cap ∧ (∀ i, i < zs.length → w.cell? (x.add i) = some (.int k (zs.getD i 0))) ∧ ∀ n ∈ zs, (Lit.int k n).wf = true

/-- A slice of integers of kind k that came in and is only read: its elements zs, in a block below hi. -/
def Came (k : IntKind) (w : World) (hi : Nat) (v : Value) (zs : List Int) : Prop :=
  ∃ A c, v = .slice A zs.length c ∧ zs.length ≤ c ∧ c ≤ 9223372036854775807 ∧ (∀ n ∈ zs, (Lit.int k n).wf = true) ∧
    (zs = [] ∨ ∃ b o, A = some ⟨b, o, none⟩ ∧ b < hi ∧ ∀ j, j < zs.length → w.cell? ⟨b, o + j, none⟩ = some (.int k (zs.getD j 0)))
theorem Came.keep {k : IntKind} {w w' : World} {hi : Nat} {v : Value} {zs : List Int} (h : Came k w hi v zs) (hb : ∀ b, b < hi → w'.heap[b]? = w.heap[b]?) : Came k w' hi v zs := by
  obtain ⟨A, c, h1, h2, h3, h4, h5⟩ := h
  refine ⟨A, c, h1, h2, h3, h4, ?_⟩
  rcases h5 with h5 | ⟨b, o, h6, h7, h8⟩
  · exact .inl h5
  · exact .inr ⟨b, o, h6, h7, fun j hj => (World.cell?_of_block (hb b h7)).trans (h8 j hj)⟩
theorem Came.front {k : IntKind} {w : World} {hi b o c m : Nat} {zs : List Int} (hb : b < hi) (hw : ∀ n ∈ zs, (Lit.int k n).wf = true) (hc : ∀ j, j < zs.length → w.cell? ⟨b, o + j, none⟩ = some (.int k (zs.getD j 0)))
    (hm : m ≤ zs.length) (hmc : m ≤ c) (hc63 : c ≤ 9223372036854775807) : Came k w hi (.slice (some ⟨b, o, none⟩) m c) (zs.take m) := by
  have hl : (zs.take m).length = m := by simp; omega
  refine ⟨_, c, by rw [hl], by omega, hc63, fun n hn => hw n (List.mem_of_mem_take hn), .inr ⟨b, o, rfl, hb, fun j hj => ?_⟩⟩
  rw [show (zs.take m).getD j 0 = zs.getD j 0 by simp only [List.getD, List.getElem?_take]; rw [if_pos (by omega)]]
  exact hc j (by omega)
theorem Came.of_row {k : IntKind} {w : World} {a : Option Addr} {len cap : Nat} {zs : List Int} (h : IsRow k w a len cap zs) : Came k w w.heap.size (.slice a len cap) (zs.take len) ∧ (zs.take len).length = len := by
  rcases h with ⟨rfl, rfl, rfl, rfl⟩ | ⟨x, rfl, hl, hm, hz, hc, hw⟩
  · exact ⟨⟨none, 0, rfl, Nat.le_refl _, by omega, by simp, .inl rfl⟩, rfl⟩
  · have hlen : (zs.take len).length = len := by simp; omega
    refine ⟨⟨some x, cap, by rw [hlen], by omega, by unfold maxLen at hm; omega, fun n hn => hw n (List.mem_of_mem_take hn), ?_⟩, hlen⟩
    by_cases h0 : len = 0
    · subst h0; exact .inl (by simp)
    · right
      obtain ⟨b, off, spot⟩ := x
      have hc0 := hc 0 (by omega)
      have hspot : spot = none := by simpa [Addr.add] using World.cell?_spot hc0
      subst hspot
      refine ⟨b, off, rfl, by simpa [Addr.add] using World.block_lt_of_cell? w _ hc0, fun j hj => ?_⟩
      have h1 := hc j (by omega)
      rw [show (zs.take len).getD j 0 = zs.getD j 0 by simp only [List.getD, List.getElem?_take]; rw [if_pos (by omega)]]
      rw [addr_add] at h1
      exact h1
end Go.Proofs.YtpcflkdeoafpeaaDoor

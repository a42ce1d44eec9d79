/-
  The drawn packet: its quad and its data in memory of the call's own; the reader has gone on. Conditions: the reader's counter is small.
  The drawn bytes of a packet, changed here and there. Conditions: none.
-/
import Derived.Test.YtolbkdcnmkmncaaDoorDrawAd2
import Derived.Test.YtolbkdcnmkmncaaDoorChanged
import Derived.Test.YtolbkdcnmkmncaaDoorReader
import Derived.Deep.CutRange
import Derived.Test.YtolbkdcnmkmncaaDoorPkBytes
namespace Go.Proofs.YtolbkdcnmkmncaaDoor
open Go.RowKit

theorem Rd6.drew {w : World} {hi g p : Nat} (h : Rd6 w hi g p) : Rd6 w.drew hi g p := h
theorem Blk.drew {w : World} {g : Nat} {t : TypeId} {cs : Array Value} (h : Blk w g t cs) : Blk w.drew g t cs := h
theorem rep_len {j : Nat} (h : j < 2) : (List.replicate (40 + j) (0 : Int)).length ≤ 100 := by simp; omega
theorem far_frozen {W w' : World} {g : Nat} (h : W.grownBy w' (some g)) : ∀ b o, b ≠ g → b < W.heap.size → w'.frozen? ⟨b, o, none⟩ = W.frozen? ⟨b, o, none⟩ := by
  intro b o hb hl
  exact World.grownBy.frozen_far h ⟨b, o, none⟩ hl (by intro e; injection e with e; exact hb e)
theorem lit6_get {y : Int} {j : Nat} (hj : j < 6) (hy : ([0, 1, 2, 129, 130, 127] : List Int).getD j 0 = y) (h : j < ([Value.int .i64 0, .int .i64 1, .int .i64 2, .int .i64 129, .int .i64 130, .int .i64 127] : List Value).length) : ([Value.int .i64 0, .int .i64 1, .int .i64 2, .int .i64 129, .int .i64 130, .int .i64 127] : List Value)[j]'h = .int .i64 y := by
  subst hy
  match j, hj with
  | 0, _ => rfl
  | 1, _ => rfl
  | 2, _ => rfl
  | 3, _ => rfl
  | 4, _ => rfl
  | 5, _ => rfl
theorem Own.all6 {w : World} {base B : Nat} {s a b c e f t : Value} {zs : List Int} (h : Own w base s zs) (hb : s.ownBlock ≠ some B) : Own (((((((w).setCell ⟨B, 0, none⟩ a).setCell ⟨B, 1, none⟩ b).setCell ⟨B, 2, none⟩ c).setCell ⟨B, 3, none⟩ e).setCell ⟨B, 4, none⟩ f).setCell ⟨B, 5, none⟩ t) base s zs :=
  (((((h.farN hb a).farN hb b).farN hb c).farN hb e).farN hb f).farN hb t
theorem Rd6.all6 {w : World} {hi g p B : Nat} {a b c e f t : Value} (h : Rd6 w hi g p) (hp : g ≠ B) (hh : hi ≤ B) : Rd6 (((((((w).setCell ⟨B, 0, none⟩ a).setCell ⟨B, 1, none⟩ b).setCell ⟨B, 2, none⟩ c).setCell ⟨B, 3, none⟩ e).setCell ⟨B, 4, none⟩ f).setCell ⟨B, 5, none⟩ t) hi g p :=
  (((((h.far (a := ⟨B, 0, none⟩) hp hh a).far (a := ⟨B, 1, none⟩) hp hh b).far (a := ⟨B, 2, none⟩) hp hh c).far (a := ⟨B, 3, none⟩) hp hh e).far (a := ⟨B, 4, none⟩) hp hh f).far (a := ⟨B, 5, none⟩) hp hh t
theorem only_all6 {a0 w : World} {g B : Nat} {a b c e f t : Value} (h : a0.grownBy w (some g)) (hB : a0.heap.size ≤ B) : a0.grownBy (((((((w).setCell ⟨B, 0, none⟩ a).setCell ⟨B, 1, none⟩ b).setCell ⟨B, 2, none⟩ c).setCell ⟨B, 3, none⟩ e).setCell ⟨B, 4, none⟩ f).setCell ⟨B, 5, none⟩ t) (some g) :=
  only_setCell (p := ⟨B, 5, none⟩) (only_setCell (p := ⟨B, 4, none⟩) (only_setCell (p := ⟨B, 3, none⟩) (only_setCell (p := ⟨B, 2, none⟩) (only_setCell (p := ⟨B, 1, none⟩) (only_setCell (p := ⟨B, 0, none⟩) h (.inr hB) a) (.inr hB) b) (.inr hB) c) (.inr hB) e) (.inr hB) f) (.inr hB) t
theorem Blk.all6 {w : World} {g : Nat} {ty : TypeId} {a0 b0 c0 e0 f0 t0 : Value} (h : Blk w g ty #[a0, b0, c0, e0, f0, t0]) (a b c e f t : Value) : Blk (((((((w).setCell ⟨g, 0, none⟩ a).setCell ⟨g, 1, none⟩ b).setCell ⟨g, 2, none⟩ c).setCell ⟨g, 3, none⟩ e).setCell ⟨g, 4, none⟩ f).setCell ⟨g, 5, none⟩ t) g ty #[a, b, c, e, f, t] :=
  (((((h.set_ 0 a).set_ 1 b).set_ 2 c).set_ 3 e).set_ 4 f).set_ 5 t
theorem Blk.farAll6 {w : World} {g B : Nat} {ty : TypeId} {cs : Array Value} (h : Blk w g ty cs) (hb : g ≠ B) (a b c e f t : Value) : Blk (((((((w).setCell ⟨B, 0, none⟩ a).setCell ⟨B, 1, none⟩ b).setCell ⟨B, 2, none⟩ c).setCell ⟨B, 3, none⟩ e).setCell ⟨B, 4, none⟩ f).setCell ⟨B, 5, none⟩ t) g ty cs :=
  (((((h.far (p := ⟨B, 0, none⟩) hb a).far (p := ⟨B, 1, none⟩) hb b).far (p := ⟨B, 2, none⟩) hb c).far (p := ⟨B, 3, none⟩) hb e).far (p := ⟨B, 4, none⟩) hb f).far (p := ⟨B, 5, none⟩) hb t
/-- An own row of integers lies in another block than one of another type. -/
theorem Own.offBlk {w : World} {base g : Nat} {v : Value} {zs : List Int} {ty : TypeId} {cs : Array Value} (h : Own w base v zs) (hb : Blk w g ty cs) (hne : 3 ≠ ty) : v.ownBlock ≠ some g := by
  rcases h.2 with ⟨h0, _⟩ | ⟨b, cap, cur, he, _, hh, _⟩
  · subst h0
    simp [Value.ownBlock]
  · subst he
    intro h1
    simp only [Value.ownBlock] at h1
    injection h1 with h1
    subst h1
    rw [Blk] at hb
    rw [hh] at hb
    injection hb with hb
    injection hb with _ h2
    exact hne h2

/-- What holds beside the struct. -/
def PkPre (w : World) (hi g p : Nat) (q : Value) (qs : List Int) (d : Value) (ds : List Int) (W : World) : Prop :=
  Rd6 W hi g p ∧ Own W (w.heap.size + 1) q qs ∧ Own W (w.heap.size + 1) d ds ∧ w.grownBy W (some g) ∧ Blk W w.heap.size 41 #[.int .i64 0, .int .i64 0, .slice none 0 0, .string .empty, .int .i64 0, .slice none 0 0]
theorem PkPre.alloc {w W : World} {hi g p : Nat} {q d : Value} {qs ds : List Int} (h : PkPre w hi g p q qs d ds W) (o : Obj) : PkPre w hi g p q qs d ds (W.alloc o) :=
  ⟨h.1.alloc o, h.2.1.alloc o, h.2.2.1.alloc o, only_alloc h.2.2.2.1 o, h.2.2.2.2.alloc o⟩
/-- The struct is made. -/
def PkDrawn (w : World) (hi g p X : Nat) (y k : Int) (q : Value) (qs : List Int) (nm : ByteArray) (pt : Int) (d : Value) (ds : List Int) (W : World) : Prop :=
  PkPre w hi g p q qs d ds W ∧ w.heap.size + 1 ≤ X ∧ g ≠ X ∧ Blk W X 41 #[.int .i64 y, .int .i64 k, q, .string nm, .int .i64 pt, d]
theorem PkDrawn.alloc {w W : World} {hi g p X : Nat} {y k pt : Int} {q d : Value} {nm : ByteArray} {qs ds : List Int} (h : PkDrawn w hi g p X y k q qs nm pt d ds W) (o : Obj) : PkDrawn w hi g p X y k q qs nm pt d ds (W.alloc o) :=
  ⟨h.1.alloc o, h.2.1, h.2.2.1, h.2.2.2.alloc o⟩
theorem PkDrawn.grown {w W W' : World} {hi g p p' X : Nat} {y k pt : Int} {q d : Value} {nm : ByteArray} {qs ds : List Int} (h : PkDrawn w hi g p X y k q qs nm pt d ds W) (hr : Rd6 W' hi g p') (hg : W.grownBy W' (some g)) (hw : g ≠ w.heap.size) : PkDrawn w hi g p' X y k q qs nm pt d ds W' := by
  obtain ⟨⟨h1, h2, h3, h4, h5⟩, h6, h7, h8⟩ := h
  exact ⟨⟨hr, h1.own h2 hg, h1.own h3 hg, only_trans h4 hg, h5.grown hg (by intro e; injection e with e; exact hw e.symm)⟩, h6, h7, h8.grown hg (by intro e; injection e with e; exact h7 e.symm)⟩
theorem PkDrawn.new {w W : World} {hi g p X : Nat} {y k pt : Int} {q d : Value} {nm : ByteArray} {qs ds : List Int} (h : PkPre w hi g p q qs d ds W) (hX : X = W.heap.size) : PkDrawn w hi g p X y k q qs nm pt d ds (W.alloc (.cells #[.int .i64 y, .int .i64 k, q, .string nm, .int .i64 pt, d] 41)) := by
  have h1 := h.1.lt
  have h2 := h.2.2.2.2.lt
  subst hX
  exact ⟨h.alloc _, by omega, by omega, Blk.new _ _ _⟩
theorem PkDrawn.six {w W : World} {hi g p X : Nat} {y k pt : Int} {q d : Value} {nm : ByteArray} {qs ds : List Int} {a0 b0 c0 e0 f0 t0 : Value} (h : PkPre w hi g p q qs d ds W) (hb : Blk W X 41 #[a0, b0, c0, e0, f0, t0]) (hX : w.heap.size + 1 ≤ X) (hg : g ≠ X) (hh : hi ≤ w.heap.size) :
    PkDrawn w hi g p X y k q qs nm pt d ds ((((((W.setCell ⟨X, 0, none⟩ (.int .i64 y)).setCell ⟨X, 1, none⟩ (.int .i64 k)).setCell ⟨X, 2, none⟩ q).setCell ⟨X, 3, none⟩ (.string nm)).setCell ⟨X, 4, none⟩ (.int .i64 pt)).setCell ⟨X, 5, none⟩ d) :=
  ⟨⟨h.1.all6 hg (by omega), h.2.1.all6 (h.2.1.offBlk hb (by decide)), h.2.2.1.all6 (h.2.2.1.offBlk hb (by decide)), only_all6 h.2.2.2.1 (by omega), h.2.2.2.2.farAll6 (by omega) _ _ _ _ _ _⟩, hX, hg, hb.all6 _ _ _ _ _ _⟩
theorem PkDrawn.set0 {w W : World} {hi g p X : Nat} {y k pt : Int} {q d : Value} {nm : ByteArray} {qs ds : List Int} (h : PkDrawn w hi g p X y k q qs nm pt d ds W) (hh : hi ≤ w.heap.size) (y' : Int) : PkDrawn w hi g p X y' k q qs nm pt d ds (W.setCell ⟨X, 0, none⟩ (.int .i64 y')) := by
  obtain ⟨⟨h1, h2, h3, h4, h5⟩, h6, h7, h8⟩ := h
  exact ⟨⟨h1.far (a := ⟨X, 0, none⟩) h7 (show hi ≤ X by omega) _, h2.farN (h2.offBlk h8 (by decide)) _, h3.farN (h3.offBlk h8 (by decide)) _, only_setCell (p := ⟨X, 0, none⟩) h4 (.inr (show w.heap.size ≤ X by omega)) _, h5.far (p := ⟨X, 0, none⟩) (show w.heap.size ≠ X by omega) _⟩, h6, h7, h8.set_ 0 _⟩
theorem PkDrawn.set5 {w W : World} {hi g p X : Nat} {y k pt : Int} {q d d' : Value} {nm : ByteArray} {qs ds ds' : List Int} (h : PkDrawn w hi g p X y k q qs nm pt d ds W) (hd : Own W (w.heap.size + 1) d' ds') (hh : hi ≤ w.heap.size) : PkDrawn w hi g p X y k q qs nm pt d' ds' (W.setCell ⟨X, 5, none⟩ d') := by
  obtain ⟨⟨h1, h2, h3, h4, h5⟩, h6, h7, h8⟩ := h
  exact ⟨⟨h1.far (a := ⟨X, 5, none⟩) h7 (show hi ≤ X by omega) _, h2.farN (h2.offBlk h8 (by decide)) _, hd.farN (hd.offBlk h8 (by decide)) _, only_setCell (p := ⟨X, 5, none⟩) h4 (.inr (show w.heap.size ≤ X by omega)) _, h5.far (p := ⟨X, 5, none⟩) (show w.heap.size ≠ X by omega) _⟩, h6, h7, h8.set_ 5 _⟩

/-- A walk over all orders of a region by its states: what is proved of a state may lean on all states with less left. -/
theorem wpAny_memo {P : Program} {md : Region.Mode} {ops : Array Oper} {Q : Exit → Act → World → Prop} (I : Nat → Array Bool → Act → World → Prop)
    (h : ∀ n listed a w, (∀ m, m < n → ∀ l a w, I m l a w → wpAny P md ops Q m l a w) → I n listed a w → wpAny P md ops Q n listed a w) :
    ∀ n listed a w, I n listed a w → wpAny P md ops Q n listed a w := by
  intro n
  induction n using Nat.strongRecOn with
  | ind n ih => exact fun listed a w hI => h n listed a w (fun m hm l a w hI => ih m hm l a w hI) hI
/-- What holds in the midst of the region. -/
def PkSt (w : World) (hi g p : Nat) (l x a b : Bool) (Lb X : Nat) (q d : Value) (qs ds : List Int) (W : World) : Prop :=
  Rd6 W hi g p ∧ w.grownBy W (some g) ∧ Blk W w.heap.size 41 #[.int .i64 0, .int .i64 0, .slice none 0 0, .string .empty, .int .i64 0, .slice none 0 0] ∧ (l = true → Blk W Lb 3 #[.int .i64 0, .int .i64 1, .int .i64 2, .int .i64 129, .int .i64 130, .int .i64 127] ∧ g ≠ Lb) ∧ (x = true → Blk W X 41 #[.int .i64 0, .int .i64 0, .slice none 0 0, .string ⟨#[]⟩, .int .i64 0, .slice none 0 0] ∧ g ≠ X ∧ w.heap.size + 1 ≤ X) ∧ (a = true → Own W (w.heap.size + 1) q qs) ∧ (b = true → Own W (w.heap.size + 1) d ds)
theorem PkSt.base {w W : World} {hi g p Lb X : Nat} {l x a b : Bool} {q d : Value} {qs ds : List Int} (h : PkSt w hi g p l x a b Lb X q d qs ds W) : w.heap.size + 1 ≤ W.heap.size := h.2.2.1.lt
theorem PkSt.newL {w W : World} {hi g p Lb X : Nat} {x a b : Bool} {q d : Value} {qs ds : List Int} (h : PkSt w hi g p false x a b Lb X q d qs ds W) : PkSt w hi g p true x a b W.heap.size X q d qs ds (W.alloc (.cells #[.int .i64 0, .int .i64 1, .int .i64 2, .int .i64 129, .int .i64 130, .int .i64 127] 3)) := by
  obtain ⟨h1, h2, h3, _, h5, h6, h7⟩ := h
  have := h1.lt
  exact ⟨h1.alloc _, only_alloc h2 _, h3.alloc _, fun _ => ⟨Blk.new _ _ _, by omega⟩, fun e => ⟨(h5 e).1.alloc _, (h5 e).2⟩, fun e => (h6 e).alloc _, fun e => (h7 e).alloc _⟩
theorem PkSt.newX {w W : World} {hi g p Lb X : Nat} {l a b : Bool} {q d : Value} {qs ds : List Int} (h : PkSt w hi g p l false a b Lb X q d qs ds W) : PkSt w hi g p l true a b Lb W.heap.size q d qs ds (W.alloc (.cells #[.int .i64 0, .int .i64 0, .slice none 0 0, .string ⟨#[]⟩, .int .i64 0, .slice none 0 0] 41)) := by
  have hb := h.base
  obtain ⟨h1, h2, h3, h4, _, h6, h7⟩ := h
  have := h1.lt
  exact ⟨h1.alloc _, only_alloc h2 _, h3.alloc _, fun e => ⟨(h4 e).1.alloc _, (h4 e).2⟩, fun _ => ⟨Blk.new _ _ _, by omega, hb⟩, fun e => (h6 e).alloc _, fun e => (h7 e).alloc _⟩
theorem PkSt.call {w W W' : World} {hi g p p' Lb X : Nat} {l x a b : Bool} {q d : Value} {qs ds : List Int} (h : PkSt w hi g p l x a b Lb X q d qs ds W) (hr : Rd6 W' hi g p') (hg : W.grownBy W' (some g)) (hw : g ≠ w.heap.size) : PkSt w hi g p' l x a b Lb X q d qs ds W' := by
  obtain ⟨h1, h2, h3, h4, h5, h6, h7⟩ := h
  exact ⟨hr, only_trans h2 hg, h3.grown hg (by intro e; injection e with e; exact hw e.symm), fun e => ⟨(h4 e).1.grown hg (by intro e'; injection e' with e'; exact (h4 e).2 e'.symm), (h4 e).2⟩, fun e => ⟨(h5 e).1.grown hg (by intro e'; injection e' with e'; exact (h5 e).2.1 e'.symm), (h5 e).2⟩, fun e => h1.own (h6 e) hg, fun e => h1.own (h7 e) hg⟩
theorem PkSt.setA {w W : World} {hi g p Lb X : Nat} {l x b : Bool} {q q' d : Value} {qs qs' ds : List Int} (h : PkSt w hi g p l x false b Lb X q d qs ds W) (ho : Own W (w.heap.size + 1) q' qs') : PkSt w hi g p l x true b Lb X q' d qs' ds W :=
  ⟨h.1, h.2.1, h.2.2.1, h.2.2.2.1, h.2.2.2.2.1, fun _ => ho, h.2.2.2.2.2.2⟩
theorem PkSt.setB {w W : World} {hi g p Lb X : Nat} {l x a : Bool} {q d d' : Value} {qs ds ds' : List Int} (h : PkSt w hi g p l x a false Lb X q d qs ds W) (ho : Own W (w.heap.size + 1) d' ds') : PkSt w hi g p l x a true Lb X q d' qs ds' W :=
  ⟨h.1, h.2.1, h.2.2.1, h.2.2.2.1, h.2.2.2.2.1, h.2.2.2.2.2.1, fun _ => ho⟩
theorem PkSt.lit {w W : World} {hi g p Lb X j : Nat} {y : Int} {x a b : Bool} {q d : Value} {qs ds : List Int} (h : PkSt w hi g p true x a b Lb X q d qs ds W) (hj : j < 6) (hy : ([0, 1, 2, 129, 130, 127] : List Int).getD j 0 = y) : W.cell? ⟨Lb, j, none⟩ = some (.int .i64 y) := by
  rw [(h.2.2.2.1 rfl).1.cell j]
  subst hy
  match j, hj with
  | 0, _ => rfl
  | 1, _ => rfl
  | 2, _ => rfl
  | 3, _ => rfl
  | 4, _ => rfl
  | 5, _ => rfl
theorem PkSt.fin {w W : World} {hi g p Lb X : Nat} {l : Bool} {y k pt : Int} {nm : ByteArray} {q d : Value} {qs ds : List Int} (h : PkSt w hi g p l true true true Lb X q d qs ds W) (hh : hi ≤ w.heap.size) :
    PkDrawn w hi g p X y k q qs nm pt d ds ((((((W.setCell ⟨X, 0, none⟩ (.int .i64 y)).setCell ⟨X, 1, none⟩ (.int .i64 k)).setCell ⟨X, 2, none⟩ q).setCell ⟨X, 3, none⟩ (.string nm)).setCell ⟨X, 4, none⟩ (.int .i64 pt)).setCell ⟨X, 5, none⟩ d) := by
  obtain ⟨h1, h2, h3, _, h5, h6, h7⟩ := h
  exact PkDrawn.six ⟨h1, h6 rfl, h7 rfl, h2, h3⟩ (h5 rfl).1 (h5 rfl).2.2 (h5 rfl).2.1 hh
/-- What has come up, and what holds then. -/
def PkInv (w : World) (hi g p : Nat) (n : Nat) (listed : Array Bool) (a : Act) (W : World) : Prop :=
  ∃ (Lb X j : Nat) (y k : Int) (A : Option Addr) (c : Nat) (qs : List Int) (nm : ByteArray) (pt : Int) (D : Option Addr) (e1 : Nat) (ds : List Int) (p1 : Nat),
    (n = 9 ∧ listed = #[false, true, false, false, false, true, false, true, false, false, false, false] ∧ a = { tmps := #[.pointer (some ⟨g, 0, none⟩), undef, .pointer (some ⟨w.heap.size, 0, none⟩), undef, undef, .pointer (some ⟨g, 0, none⟩), undef, undef, undef, .pointer (some ⟨g, 0, none⟩), undef, .pointer (some ⟨g, 0, none⟩), undef, undef, undef, undef, undef, undef, undef, undef, undef, undef, undef, undef, undef, undef, undef, undef, undef, undef, undef, undef], defers := [] } ∧ PkSt w hi g p1 false false false false Lb X (.slice A qs.length c) (.slice D ds.length e1) qs ds W ∧ p1 ≤ p + 0) ∨
    (n = 8 ∧ listed = #[false, true, false, false, false, true, false, true, false, false, true, false] ∧ a = { tmps := #[.pointer (some ⟨g, 0, none⟩), undef, .pointer (some ⟨w.heap.size, 0, none⟩), .pointer (some ⟨X, 0, none⟩), undef, .pointer (some ⟨g, 0, none⟩), undef, undef, undef, .pointer (some ⟨g, 0, none⟩), undef, .pointer (some ⟨g, 0, none⟩), undef, undef, undef, undef, undef, undef, undef, undef, undef, undef, undef, undef, undef, undef, undef, undef, undef, undef, undef, undef], defers := [] } ∧ PkSt w hi g p1 false true false false Lb X (.slice A qs.length c) (.slice D ds.length e1) qs ds W ∧ p1 ≤ p + 0) ∨
    (n = 8 ∧ listed = #[true, true, false, false, false, true, false, true, false, false, false, false] ∧ a = { tmps := #[.pointer (some ⟨g, 0, none⟩), undef, .pointer (some ⟨w.heap.size, 0, none⟩), undef, .slice (some ⟨Lb, 0, none⟩) 6 6, .pointer (some ⟨g, 0, none⟩), undef, undef, undef, .pointer (some ⟨g, 0, none⟩), undef, .pointer (some ⟨g, 0, none⟩), undef, undef, undef, undef, undef, undef, undef, undef, undef, undef, undef, undef, undef, undef, undef, undef, undef, undef, undef, undef], defers := [] } ∧ PkSt w hi g p1 true false false false Lb X (.slice A qs.length c) (.slice D ds.length e1) qs ds W ∧ p1 ≤ p + 0) ∨
    (n = 7 ∧ listed = #[true, true, false, false, false, true, false, true, false, false, true, false] ∧ a = { tmps := #[.pointer (some ⟨g, 0, none⟩), undef, .pointer (some ⟨w.heap.size, 0, none⟩), .pointer (some ⟨X, 0, none⟩), .slice (some ⟨Lb, 0, none⟩) 6 6, .pointer (some ⟨g, 0, none⟩), undef, undef, undef, .pointer (some ⟨g, 0, none⟩), undef, .pointer (some ⟨g, 0, none⟩), undef, undef, undef, undef, undef, undef, undef, undef, undef, undef, undef, undef, undef, undef, undef, undef, undef, undef, undef, undef], defers := [] } ∧ PkSt w hi g p1 true true false false Lb X (.slice A qs.length c) (.slice D ds.length e1) qs ds W ∧ p1 ≤ p + 0) ∨
    (n = 8 ∧ listed = #[false, true, true, false, false, true, false, true, false, false, false, false] ∧ a = { tmps := #[.pointer (some ⟨g, 0, none⟩), undef, .pointer (some ⟨w.heap.size, 0, none⟩), undef, undef, .pointer (some ⟨g, 0, none⟩), .int .i64 (j : Int), undef, undef, .pointer (some ⟨g, 0, none⟩), undef, .pointer (some ⟨g, 0, none⟩), undef, undef, undef, undef, undef, undef, undef, undef, undef, undef, undef, undef, undef, undef, undef, undef, undef, undef, undef, undef], defers := [] } ∧ PkSt w hi g p1 false false false false Lb X (.slice A qs.length c) (.slice D ds.length e1) qs ds W ∧ p1 ≤ p + 1 ∧ j < 6 ∧ ([0, 1, 2, 129, 130, 127] : List Int).getD j 0 = y) ∨
    (n = 7 ∧ listed = #[false, true, true, false, false, true, false, true, false, false, true, false] ∧ a = { tmps := #[.pointer (some ⟨g, 0, none⟩), undef, .pointer (some ⟨w.heap.size, 0, none⟩), .pointer (some ⟨X, 0, none⟩), undef, .pointer (some ⟨g, 0, none⟩), .int .i64 (j : Int), undef, undef, .pointer (some ⟨g, 0, none⟩), undef, .pointer (some ⟨g, 0, none⟩), undef, undef, undef, undef, undef, undef, undef, undef, undef, undef, undef, undef, undef, undef, undef, undef, undef, undef, undef, undef], defers := [] } ∧ PkSt w hi g p1 false true false false Lb X (.slice A qs.length c) (.slice D ds.length e1) qs ds W ∧ p1 ≤ p + 1 ∧ j < 6 ∧ ([0, 1, 2, 129, 130, 127] : List Int).getD j 0 = y) ∨
    (n = 6 ∧ listed = #[true, true, true, true, false, true, false, true, false, false, false, false] ∧ a = { tmps := #[.pointer (some ⟨g, 0, none⟩), undef, .pointer (some ⟨w.heap.size, 0, none⟩), undef, .slice (some ⟨Lb, 0, none⟩) 6 6, .pointer (some ⟨g, 0, none⟩), .int .i64 (j : Int), .pointer (some ⟨Lb, j, none⟩), undef, .pointer (some ⟨g, 0, none⟩), undef, .pointer (some ⟨g, 0, none⟩), undef, undef, undef, undef, undef, undef, undef, undef, undef, undef, undef, undef, undef, undef, undef, undef, undef, undef, undef, undef], defers := [] } ∧ PkSt w hi g p1 true false false false Lb X (.slice A qs.length c) (.slice D ds.length e1) qs ds W ∧ p1 ≤ p + 1 ∧ j < 6 ∧ ([0, 1, 2, 129, 130, 127] : List Int).getD j 0 = y) ∨
    (n = 5 ∧ listed = #[true, true, true, true, false, true, false, true, false, false, true, false] ∧ a = { tmps := #[.pointer (some ⟨g, 0, none⟩), undef, .pointer (some ⟨w.heap.size, 0, none⟩), .pointer (some ⟨X, 0, none⟩), .slice (some ⟨Lb, 0, none⟩) 6 6, .pointer (some ⟨g, 0, none⟩), .int .i64 (j : Int), .pointer (some ⟨Lb, j, none⟩), undef, .pointer (some ⟨g, 0, none⟩), undef, .pointer (some ⟨g, 0, none⟩), undef, undef, undef, undef, undef, undef, undef, undef, undef, undef, undef, undef, undef, undef, undef, undef, undef, undef, undef, undef], defers := [] } ∧ PkSt w hi g p1 true true false false Lb X (.slice A qs.length c) (.slice D ds.length e1) qs ds W ∧ p1 ≤ p + 1 ∧ j < 6 ∧ ([0, 1, 2, 129, 130, 127] : List Int).getD j 0 = y) ∨
    (n = 5 ∧ listed = #[true, true, true, true, true, true, false, true, false, false, false, false] ∧ a = { tmps := #[.pointer (some ⟨g, 0, none⟩), undef, .pointer (some ⟨w.heap.size, 0, none⟩), undef, .slice (some ⟨Lb, 0, none⟩) 6 6, .pointer (some ⟨g, 0, none⟩), .int .i64 (j : Int), .pointer (some ⟨Lb, j, none⟩), .int .i64 y, .pointer (some ⟨g, 0, none⟩), undef, .pointer (some ⟨g, 0, none⟩), undef, undef, undef, undef, undef, undef, undef, undef, undef, undef, undef, undef, undef, undef, undef, undef, undef, undef, undef, undef], defers := [] } ∧ PkSt w hi g p1 true false false false Lb X (.slice A qs.length c) (.slice D ds.length e1) qs ds W ∧ p1 ≤ p + 1 ∧ j < 6 ∧ ([0, 1, 2, 129, 130, 127] : List Int).getD j 0 = y) ∨
    (n = 4 ∧ listed = #[true, true, true, true, true, true, false, true, false, false, true, false] ∧ a = { tmps := #[.pointer (some ⟨g, 0, none⟩), undef, .pointer (some ⟨w.heap.size, 0, none⟩), .pointer (some ⟨X, 0, none⟩), .slice (some ⟨Lb, 0, none⟩) 6 6, .pointer (some ⟨g, 0, none⟩), .int .i64 (j : Int), .pointer (some ⟨Lb, j, none⟩), .int .i64 y, .pointer (some ⟨g, 0, none⟩), undef, .pointer (some ⟨g, 0, none⟩), undef, undef, undef, undef, undef, undef, undef, undef, undef, undef, undef, undef, undef, undef, undef, undef, undef, undef, undef, undef], defers := [] } ∧ PkSt w hi g p1 true true false false Lb X (.slice A qs.length c) (.slice D ds.length e1) qs ds W ∧ p1 ≤ p + 1 ∧ j < 6 ∧ ([0, 1, 2, 129, 130, 127] : List Int).getD j 0 = y) ∨
    (n = 7 ∧ listed = #[false, true, true, false, false, true, true, true, false, false, false, false] ∧ a = { tmps := #[.pointer (some ⟨g, 0, none⟩), undef, .pointer (some ⟨w.heap.size, 0, none⟩), undef, undef, .pointer (some ⟨g, 0, none⟩), .int .i64 (j : Int), undef, undef, .pointer (some ⟨g, 0, none⟩), .agg #[.int .i64 k, .slice A qs.length c, .string nm, .int .i64 pt], .pointer (some ⟨g, 0, none⟩), undef, undef, undef, undef, undef, undef, undef, undef, undef, undef, undef, undef, undef, undef, undef, undef, undef, undef, undef, undef], defers := [] } ∧ PkSt w hi g p1 false false true false Lb X (.slice A qs.length c) (.slice D ds.length e1) qs ds W ∧ p1 ≤ p + 21 ∧ j < 6 ∧ ([0, 1, 2, 129, 130, 127] : List Int).getD j 0 = y ∧ qs.length ≤ 4 ∧ nm.size ≤ 21) ∨
    (n = 6 ∧ listed = #[false, true, true, false, false, true, true, true, false, false, true, false] ∧ a = { tmps := #[.pointer (some ⟨g, 0, none⟩), undef, .pointer (some ⟨w.heap.size, 0, none⟩), .pointer (some ⟨X, 0, none⟩), undef, .pointer (some ⟨g, 0, none⟩), .int .i64 (j : Int), undef, undef, .pointer (some ⟨g, 0, none⟩), .agg #[.int .i64 k, .slice A qs.length c, .string nm, .int .i64 pt], .pointer (some ⟨g, 0, none⟩), undef, undef, undef, undef, undef, undef, undef, undef, undef, undef, undef, undef, undef, undef, undef, undef, undef, undef, undef, undef], defers := [] } ∧ PkSt w hi g p1 false true true false Lb X (.slice A qs.length c) (.slice D ds.length e1) qs ds W ∧ p1 ≤ p + 21 ∧ j < 6 ∧ ([0, 1, 2, 129, 130, 127] : List Int).getD j 0 = y ∧ qs.length ≤ 4 ∧ nm.size ≤ 21) ∨
    (n = 5 ∧ listed = #[true, true, true, true, false, true, true, true, false, false, false, false] ∧ a = { tmps := #[.pointer (some ⟨g, 0, none⟩), undef, .pointer (some ⟨w.heap.size, 0, none⟩), undef, .slice (some ⟨Lb, 0, none⟩) 6 6, .pointer (some ⟨g, 0, none⟩), .int .i64 (j : Int), .pointer (some ⟨Lb, j, none⟩), undef, .pointer (some ⟨g, 0, none⟩), .agg #[.int .i64 k, .slice A qs.length c, .string nm, .int .i64 pt], .pointer (some ⟨g, 0, none⟩), undef, undef, undef, undef, undef, undef, undef, undef, undef, undef, undef, undef, undef, undef, undef, undef, undef, undef, undef, undef], defers := [] } ∧ PkSt w hi g p1 true false true false Lb X (.slice A qs.length c) (.slice D ds.length e1) qs ds W ∧ p1 ≤ p + 21 ∧ j < 6 ∧ ([0, 1, 2, 129, 130, 127] : List Int).getD j 0 = y ∧ qs.length ≤ 4 ∧ nm.size ≤ 21) ∨
    (n = 4 ∧ listed = #[true, true, true, true, false, true, true, true, false, false, true, false] ∧ a = { tmps := #[.pointer (some ⟨g, 0, none⟩), undef, .pointer (some ⟨w.heap.size, 0, none⟩), .pointer (some ⟨X, 0, none⟩), .slice (some ⟨Lb, 0, none⟩) 6 6, .pointer (some ⟨g, 0, none⟩), .int .i64 (j : Int), .pointer (some ⟨Lb, j, none⟩), undef, .pointer (some ⟨g, 0, none⟩), .agg #[.int .i64 k, .slice A qs.length c, .string nm, .int .i64 pt], .pointer (some ⟨g, 0, none⟩), undef, undef, undef, undef, undef, undef, undef, undef, undef, undef, undef, undef, undef, undef, undef, undef, undef, undef, undef, undef], defers := [] } ∧ PkSt w hi g p1 true true true false Lb X (.slice A qs.length c) (.slice D ds.length e1) qs ds W ∧ p1 ≤ p + 21 ∧ j < 6 ∧ ([0, 1, 2, 129, 130, 127] : List Int).getD j 0 = y ∧ qs.length ≤ 4 ∧ nm.size ≤ 21) ∨
    (n = 4 ∧ listed = #[true, true, true, true, true, true, true, true, false, false, false, false] ∧ a = { tmps := #[.pointer (some ⟨g, 0, none⟩), undef, .pointer (some ⟨w.heap.size, 0, none⟩), undef, .slice (some ⟨Lb, 0, none⟩) 6 6, .pointer (some ⟨g, 0, none⟩), .int .i64 (j : Int), .pointer (some ⟨Lb, j, none⟩), .int .i64 y, .pointer (some ⟨g, 0, none⟩), .agg #[.int .i64 k, .slice A qs.length c, .string nm, .int .i64 pt], .pointer (some ⟨g, 0, none⟩), undef, undef, undef, undef, undef, undef, undef, undef, undef, undef, undef, undef, undef, undef, undef, undef, undef, undef, undef, undef], defers := [] } ∧ PkSt w hi g p1 true false true false Lb X (.slice A qs.length c) (.slice D ds.length e1) qs ds W ∧ p1 ≤ p + 21 ∧ j < 6 ∧ ([0, 1, 2, 129, 130, 127] : List Int).getD j 0 = y ∧ qs.length ≤ 4 ∧ nm.size ≤ 21) ∨
    (n = 3 ∧ listed = #[true, true, true, true, true, true, true, true, false, false, true, false] ∧ a = { tmps := #[.pointer (some ⟨g, 0, none⟩), undef, .pointer (some ⟨w.heap.size, 0, none⟩), .pointer (some ⟨X, 0, none⟩), .slice (some ⟨Lb, 0, none⟩) 6 6, .pointer (some ⟨g, 0, none⟩), .int .i64 (j : Int), .pointer (some ⟨Lb, j, none⟩), .int .i64 y, .pointer (some ⟨g, 0, none⟩), .agg #[.int .i64 k, .slice A qs.length c, .string nm, .int .i64 pt], .pointer (some ⟨g, 0, none⟩), undef, undef, undef, undef, undef, undef, undef, undef, undef, undef, undef, undef, undef, undef, undef, undef, undef, undef, undef, undef], defers := [] } ∧ PkSt w hi g p1 true true true false Lb X (.slice A qs.length c) (.slice D ds.length e1) qs ds W ∧ p1 ≤ p + 21 ∧ j < 6 ∧ ([0, 1, 2, 129, 130, 127] : List Int).getD j 0 = y ∧ qs.length ≤ 4 ∧ nm.size ≤ 21) ∨
    (n = 6 ∧ listed = #[false, true, true, false, false, true, true, true, true, false, false, false] ∧ a = { tmps := #[.pointer (some ⟨g, 0, none⟩), undef, .pointer (some ⟨w.heap.size, 0, none⟩), undef, undef, .pointer (some ⟨g, 0, none⟩), .int .i64 (j : Int), undef, undef, .pointer (some ⟨g, 0, none⟩), .agg #[.int .i64 k, .slice A qs.length c, .string nm, .int .i64 pt], .pointer (some ⟨g, 0, none⟩), .slice D ds.length e1, undef, undef, undef, undef, undef, undef, undef, undef, undef, undef, undef, undef, undef, undef, undef, undef, undef, undef, undef], defers := [] } ∧ PkSt w hi g p1 false false true true Lb X (.slice A qs.length c) (.slice D ds.length e1) qs ds W ∧ p1 ≤ p + 421 ∧ j < 6 ∧ ([0, 1, 2, 129, 130, 127] : List Int).getD j 0 = y ∧ qs.length ≤ 4 ∧ nm.size ≤ 21 ∧ ds.length ≤ 8) ∨
    (n = 5 ∧ listed = #[false, true, true, false, false, true, true, true, true, false, true, false] ∧ a = { tmps := #[.pointer (some ⟨g, 0, none⟩), undef, .pointer (some ⟨w.heap.size, 0, none⟩), .pointer (some ⟨X, 0, none⟩), undef, .pointer (some ⟨g, 0, none⟩), .int .i64 (j : Int), undef, undef, .pointer (some ⟨g, 0, none⟩), .agg #[.int .i64 k, .slice A qs.length c, .string nm, .int .i64 pt], .pointer (some ⟨g, 0, none⟩), .slice D ds.length e1, undef, undef, undef, undef, undef, undef, undef, undef, undef, undef, undef, undef, undef, undef, undef, undef, undef, undef, undef], defers := [] } ∧ PkSt w hi g p1 false true true true Lb X (.slice A qs.length c) (.slice D ds.length e1) qs ds W ∧ p1 ≤ p + 421 ∧ j < 6 ∧ ([0, 1, 2, 129, 130, 127] : List Int).getD j 0 = y ∧ qs.length ≤ 4 ∧ nm.size ≤ 21 ∧ ds.length ≤ 8) ∨
    (n = 4 ∧ listed = #[true, true, true, true, false, true, true, true, true, false, false, false] ∧ a = { tmps := #[.pointer (some ⟨g, 0, none⟩), undef, .pointer (some ⟨w.heap.size, 0, none⟩), undef, .slice (some ⟨Lb, 0, none⟩) 6 6, .pointer (some ⟨g, 0, none⟩), .int .i64 (j : Int), .pointer (some ⟨Lb, j, none⟩), undef, .pointer (some ⟨g, 0, none⟩), .agg #[.int .i64 k, .slice A qs.length c, .string nm, .int .i64 pt], .pointer (some ⟨g, 0, none⟩), .slice D ds.length e1, undef, undef, undef, undef, undef, undef, undef, undef, undef, undef, undef, undef, undef, undef, undef, undef, undef, undef, undef], defers := [] } ∧ PkSt w hi g p1 true false true true Lb X (.slice A qs.length c) (.slice D ds.length e1) qs ds W ∧ p1 ≤ p + 421 ∧ j < 6 ∧ ([0, 1, 2, 129, 130, 127] : List Int).getD j 0 = y ∧ qs.length ≤ 4 ∧ nm.size ≤ 21 ∧ ds.length ≤ 8) ∨
    (n = 3 ∧ listed = #[true, true, true, true, false, true, true, true, true, false, true, false] ∧ a = { tmps := #[.pointer (some ⟨g, 0, none⟩), undef, .pointer (some ⟨w.heap.size, 0, none⟩), .pointer (some ⟨X, 0, none⟩), .slice (some ⟨Lb, 0, none⟩) 6 6, .pointer (some ⟨g, 0, none⟩), .int .i64 (j : Int), .pointer (some ⟨Lb, j, none⟩), undef, .pointer (some ⟨g, 0, none⟩), .agg #[.int .i64 k, .slice A qs.length c, .string nm, .int .i64 pt], .pointer (some ⟨g, 0, none⟩), .slice D ds.length e1, undef, undef, undef, undef, undef, undef, undef, undef, undef, undef, undef, undef, undef, undef, undef, undef, undef, undef, undef], defers := [] } ∧ PkSt w hi g p1 true true true true Lb X (.slice A qs.length c) (.slice D ds.length e1) qs ds W ∧ p1 ≤ p + 421 ∧ j < 6 ∧ ([0, 1, 2, 129, 130, 127] : List Int).getD j 0 = y ∧ qs.length ≤ 4 ∧ nm.size ≤ 21 ∧ ds.length ≤ 8) ∨
    (n = 2 ∧ listed = #[true, true, true, true, true, true, true, true, true, true, false, false] ∧ a = { tmps := #[.pointer (some ⟨g, 0, none⟩), undef, .pointer (some ⟨w.heap.size, 0, none⟩), undef, .slice (some ⟨Lb, 0, none⟩) 6 6, .pointer (some ⟨g, 0, none⟩), .int .i64 (j : Int), .pointer (some ⟨Lb, j, none⟩), .int .i64 y, .pointer (some ⟨g, 0, none⟩), .agg #[.int .i64 k, .slice A qs.length c, .string nm, .int .i64 pt], .pointer (some ⟨g, 0, none⟩), .slice D ds.length e1, .agg #[.int .i64 y, .int .i64 k, .slice A qs.length c, .string nm, .int .i64 pt, .slice D ds.length e1], undef, undef, undef, undef, undef, undef, undef, undef, undef, undef, undef, undef, undef, undef, undef, undef, undef, undef], defers := [] } ∧ PkSt w hi g p1 true false true true Lb X (.slice A qs.length c) (.slice D ds.length e1) qs ds W ∧ p1 ≤ p + 421 ∧ j < 6 ∧ ([0, 1, 2, 129, 130, 127] : List Int).getD j 0 = y ∧ qs.length ≤ 4 ∧ nm.size ≤ 21 ∧ ds.length ≤ 8) ∨
    (n = 1 ∧ listed = #[true, true, true, true, true, true, true, true, true, true, true, false] ∧ a = { tmps := #[.pointer (some ⟨g, 0, none⟩), undef, .pointer (some ⟨w.heap.size, 0, none⟩), .pointer (some ⟨X, 0, none⟩), .slice (some ⟨Lb, 0, none⟩) 6 6, .pointer (some ⟨g, 0, none⟩), .int .i64 (j : Int), .pointer (some ⟨Lb, j, none⟩), .int .i64 y, .pointer (some ⟨g, 0, none⟩), .agg #[.int .i64 k, .slice A qs.length c, .string nm, .int .i64 pt], .pointer (some ⟨g, 0, none⟩), .slice D ds.length e1, .agg #[.int .i64 y, .int .i64 k, .slice A qs.length c, .string nm, .int .i64 pt, .slice D ds.length e1], undef, undef, undef, undef, undef, undef, undef, undef, undef, undef, undef, undef, undef, undef, undef, undef, undef, undef], defers := [] } ∧ PkSt w hi g p1 true true true true Lb X (.slice A qs.length c) (.slice D ds.length e1) qs ds W ∧ p1 ≤ p + 421 ∧ j < 6 ∧ ([0, 1, 2, 129, 130, 127] : List Int).getD j 0 = y ∧ qs.length ≤ 4 ∧ nm.size ≤ 21 ∧ ds.length ≤ 8)

/-- Behind a draw of a packet. -/
def DrewPk (w : World) (hi g p : Nat) (e : Ending) (w' : World) : Prop :=
  ∃ f k q qs nm pt d ds p', e = .returned (.agg #[.int .i64 f, .int .i64 k, q, .string nm, .int .i64 pt, d]) ∧ Own w' w.heap.size q qs ∧ Own w' w.heap.size d ds ∧ qs.length ≤ 4 ∧ nm.size ≤ 21 ∧ ds.length ≤ 100 ∧ p' ≤ p + 500 ∧ Rd6 w' hi g p' ∧ w.grownBy w' (some g)
theorem PkDrawn.end_ {w W : World} {hi g p p0 X : Nat} {y k pt : Int} {q d : Value} {nm : ByteArray} {qs ds : List Int} (h : PkDrawn w hi g p X y k q qs nm pt d ds W) (hh : hi ≤ w.heap.size) (hg : g < w.heap.size) (hq : qs.length ≤ 4) (hs : nm.size ≤ 21) (hd : ds.length ≤ 100) (hp : p ≤ p0 + 500) (a b c e f t : Value) :
    DrewPk w hi g p0 (.returned (.agg #[.int .i64 y, .int .i64 k, q, .string nm, .int .i64 pt, d])) (((((((W).setCell ⟨w.heap.size, 0, none⟩ a).setCell ⟨w.heap.size, 1, none⟩ b).setCell ⟨w.heap.size, 2, none⟩ c).setCell ⟨w.heap.size, 3, none⟩ e).setCell ⟨w.heap.size, 4, none⟩ f).setCell ⟨w.heap.size, 5, none⟩ t) := by
  obtain ⟨⟨h1, h2, h3, h4, h5⟩, h6, h7, h8⟩ := h
  exact ⟨y, k, q, qs, nm, pt, d, ds, p, rfl, (h2.all6 (h2.offBlk h5 (by decide))).more (by omega), (h3.all6 (h3.offBlk h5 (by decide))).more (by omega), hq, hs, hd, hp, h1.all6 (by omega) (by omega), only_all6 h4 (Nat.le_refl _)⟩

set_option maxRecDepth 100000 in
set_option maxHeartbeats 8000000 in
theorem l92Packet_any (hi g p : Nat) (w : World) (hr : Rd6 w hi g p) (hp : p ≤ 700000) :
    Calls Tryd.prog 69 #[.pointer (some ⟨g, 0, none⟩)] w fun e w' => DrewPk w hi g p e w' := by
  have hgw := hr.lt
  have hhi_ := hr.1
  have hhi : hi ≤ w.heap.size := by omega
  obtain ⟨V0, hV0⟩ : ∃ V0, w.alloc (.cells #[.int .i64 0, .int .i64 0, .slice none 0 0, .string ⟨#[]⟩, .int .i64 0, .slice none 0 0] 41) = V0 := ⟨_, rfl⟩
  have K0 : Hid (Blk V0 w.heap.size 41 #[.int .i64 0, .int .i64 0, .slice none 0 0, .string .empty, .int .i64 0, .slice none 0 0]) := Lib.hid (by rw [← hV0]; exact Blk.new _ _ _)
  have R0 : Hid (Rd6 V0 hi g p) := Lib.hid (by rw [← hV0]; exact hr.alloc _)
  have G0 : Hid (w.grownBy V0 (some g)) := Lib.hid (by rw [← hV0]; exact only_alloc (World.grownBy.refl w _) _)
  have z0 : w.heap.size < V0.heap.size := K0.out.lt
  have n0 : V0.heap.size ≠ g := by omega
  have n0' : V0.heap.size + 1 ≠ g := by omega
  clear hr
  go_enter Tryd.func69, Tryd.ntmps69
  go_wp2_with fail
  clear hV0
  have hgn : g ≠ w.heap.size := by omega
  have S0 : PkSt w hi g p false false false false 0 0 (.slice none 0 0) (.slice none 0 0) [] [] V0.drew := ⟨R0.out, only_drew G0.out, K0.out, (fun e => by cases e), (fun e => by cases e), (fun e => by cases e), fun e => by cases e⟩
  go_cut [3] from 4 to 13 (fun s3 wx => ∃ X y k q qs nm pt d ds p3, s3 = .pointer (some ⟨X, 0, none⟩) ∧ p3 ≤ p + 430 ∧ qs.length ≤ 4 ∧ nm.size ≤ 21 ∧ ds.length ≤ 8 ∧ PkDrawn w hi g p3 X y k q qs nm pt d ds wx)
  case first =>
    refine wp_region_any (by kernel_rfl) ?_
    change wpAny _ _ _ _ _ _ _ (World.drew _)
    refine wpAny_take (i := 1) (v := .pointer (some ⟨g, 0, none⟩)) rfl (by kernel_rfl) (by kernel_rfl) (by kernel_rfl) (fun _ _ _ h => h) (Or.inl ⟨by rfl, by (intro w; go_simp)⟩) ?_
    refine wpAny_take (i := 5) (v := .pointer (some ⟨g, 0, none⟩)) rfl (by kernel_rfl) (by kernel_rfl) (by kernel_rfl) (fun _ _ _ h => h) (Or.inl ⟨by rfl, by (intro w; go_simp)⟩) ?_
    refine wpAny_take (i := 7) (v := .pointer (some ⟨g, 0, none⟩)) rfl (by kernel_rfl) (by kernel_rfl) (by kernel_rfl) (fun _ _ _ h => h) (Or.inl ⟨by rfl, by (intro w; go_simp)⟩) ?_
    refine wpAny_memo (PkInv w hi g p) ?_ _ _ _ _ ⟨0, 0, 0, 0, 0, none, 0, [], .empty, 0, none, 0, [], p, (Or.inl ⟨rfl, rfl, rfl, S0, Nat.le_refl _⟩)⟩
    clear S0
    intro n listed a W IH hI
    obtain ⟨Lb, X, j, y, k, A, c, qs, nm, pt, D, e1, ds, p1, hI⟩ := hI
    rcases hI with ⟨rfl, rfl, rfl, hS, hp1⟩ | ⟨rfl, rfl, rfl, hS, hp1⟩ | ⟨rfl, rfl, rfl, hS, hp1⟩ | ⟨rfl, rfl, rfl, hS, hp1⟩ | ⟨rfl, rfl, rfl, hS, hp1, hj, hy⟩ | ⟨rfl, rfl, rfl, hS, hp1, hj, hy⟩ | ⟨rfl, rfl, rfl, hS, hp1, hj, hy⟩ | ⟨rfl, rfl, rfl, hS, hp1, hj, hy⟩ | ⟨rfl, rfl, rfl, hS, hp1, hj, hy⟩ | ⟨rfl, rfl, rfl, hS, hp1, hj, hy⟩ | ⟨rfl, rfl, rfl, hS, hp1, hj, hy, hq4, hnm⟩ | ⟨rfl, rfl, rfl, hS, hp1, hj, hy, hq4, hnm⟩ | ⟨rfl, rfl, rfl, hS, hp1, hj, hy, hq4, hnm⟩ | ⟨rfl, rfl, rfl, hS, hp1, hj, hy, hq4, hnm⟩ | ⟨rfl, rfl, rfl, hS, hp1, hj, hy, hq4, hnm⟩ | ⟨rfl, rfl, rfl, hS, hp1, hj, hy, hq4, hnm⟩ | ⟨rfl, rfl, rfl, hS, hp1, hj, hy, hq4, hnm, hd8⟩ | ⟨rfl, rfl, rfl, hS, hp1, hj, hy, hq4, hnm, hd8⟩ | ⟨rfl, rfl, rfl, hS, hp1, hj, hy, hq4, hnm, hd8⟩ | ⟨rfl, rfl, rfl, hS, hp1, hj, hy, hq4, hnm, hd8⟩ | ⟨rfl, rfl, rfl, hS, hp1, hj, hy, hq4, hnm, hd8⟩ | ⟨rfl, rfl, rfl, hS, hp1, hj, hy, hq4, hnm, hd8⟩
    · have HS := Lib.hid hS
      clear hS
      refine wpAny_ready (rs := [0, 2, 10]) (by kernel_rfl) (by simp) ?_
      refine AllReady.cons rfl (fun K hK => ?_) ?_
      · go_simp
        refine hK _ _ ?_
        clear hK K
        exact IH _ (by decide) _ _ _ ⟨W.heap.size, X, j, y, k, A, c, qs, nm, pt, D, e1, ds, p1, (Or.inr (Or.inr (Or.inl ⟨rfl, rfl, rfl, HS.out.newL, hp1⟩)))⟩
      refine AllReady.cons rfl (fun K hK => ?_) ?_
      · go_simp
        refine (pick_any hi g p1 6 _ HS.out.1 (by omega) (by omega)).mono ?_
        rintro e w1 ⟨x1, rfl, hx1, hr1, hg1⟩
        obtain ⟨j, rfl, hj⟩ := pick_lit 6 rfl (by omega) hx1
        obtain ⟨y, hy⟩ : ∃ y, ([0, 1, 2, 129, 130, 127] : List Int).getD j 0 = y := ⟨_, rfl⟩
        have hji : (j : Int) < 6 := by omega
        have hp2 : p1 + 1 ≤ p + 1 := by omega
        have S1 := HS.out.call hr1 hg1 hgn
        clear hr1 hg1 hx1 HS
        refine hK _ _ ?_
        clear hK K
        exact IH _ (by decide) _ _ _ ⟨Lb, X, j, y, k, A, c, qs, nm, pt, D, e1, ds, (p1 + 1), (Or.inr (Or.inr (Or.inr (Or.inr (Or.inl ⟨rfl, rfl, rfl, S1, hp2, hj, hy⟩)))))⟩
      refine AllReady.cons rfl (fun K hK => ?_) ?_
      · go_simp
        refine hK _ _ ?_
        clear hK K
        exact IH _ (by decide) _ _ _ ⟨Lb, W.heap.size, j, y, k, A, c, qs, nm, pt, D, e1, ds, p1, (Or.inr (Or.inl ⟨rfl, rfl, rfl, HS.out.newX, hp1⟩))⟩
      exact AllReady.nil
    · have HS := Lib.hid hS
      clear hS
      refine wpAny_ready (rs := [0, 2]) (by kernel_rfl) (by simp) ?_
      refine AllReady.cons rfl (fun K hK => ?_) ?_
      · go_simp
        refine hK _ _ ?_
        clear hK K
        exact IH _ (by decide) _ _ _ ⟨W.heap.size, X, j, y, k, A, c, qs, nm, pt, D, e1, ds, p1, (Or.inr (Or.inr (Or.inr (Or.inl ⟨rfl, rfl, rfl, HS.out.newL, hp1⟩))))⟩
      refine AllReady.cons rfl (fun K hK => ?_) ?_
      · go_simp
        refine (pick_any hi g p1 6 _ HS.out.1 (by omega) (by omega)).mono ?_
        rintro e w1 ⟨x1, rfl, hx1, hr1, hg1⟩
        obtain ⟨j, rfl, hj⟩ := pick_lit 6 rfl (by omega) hx1
        obtain ⟨y, hy⟩ : ∃ y, ([0, 1, 2, 129, 130, 127] : List Int).getD j 0 = y := ⟨_, rfl⟩
        have hji : (j : Int) < 6 := by omega
        have hp2 : p1 + 1 ≤ p + 1 := by omega
        have S1 := HS.out.call hr1 hg1 hgn
        clear hr1 hg1 hx1 HS
        refine hK _ _ ?_
        clear hK K
        exact IH _ (by decide) _ _ _ ⟨Lb, X, j, y, k, A, c, qs, nm, pt, D, e1, ds, (p1 + 1), (Or.inr (Or.inr (Or.inr (Or.inr (Or.inr (Or.inl ⟨rfl, rfl, rfl, S1, hp2, hj, hy⟩))))))⟩
      exact AllReady.nil
    · have HS := Lib.hid hS
      clear hS
      refine wpAny_ready (rs := [2, 10]) (by kernel_rfl) (by simp) ?_
      refine AllReady.cons rfl (fun K hK => ?_) ?_
      · go_simp
        refine (pick_any hi g p1 6 _ HS.out.1 (by omega) (by omega)).mono ?_
        rintro e w1 ⟨x1, rfl, hx1, hr1, hg1⟩
        obtain ⟨j, rfl, hj⟩ := pick_lit 6 rfl (by omega) hx1
        obtain ⟨y, hy⟩ : ∃ y, ([0, 1, 2, 129, 130, 127] : List Int).getD j 0 = y := ⟨_, rfl⟩
        have hji : (j : Int) < 6 := by omega
        have hp2 : p1 + 1 ≤ p + 1 := by omega
        have S1 := HS.out.call hr1 hg1 hgn
        clear hr1 hg1 hx1 HS
        refine hK _ _ ?_
        clear hK K
        refine wpAny_take (i := 3) (v := .pointer (some ⟨Lb, j, none⟩)) rfl (by kernel_rfl) (by kernel_rfl) (by kernel_rfl) (fun _ _ _ h => h) (Or.inl ⟨by rfl, by (intro w; go_simp)⟩) ?_
        exact IH _ (by decide) _ _ _ ⟨Lb, X, j, y, k, A, c, qs, nm, pt, D, e1, ds, (p1 + 1), (Or.inr (Or.inr (Or.inr (Or.inr (Or.inr (Or.inr (Or.inl ⟨rfl, rfl, rfl, S1, hp2, hj, hy⟩)))))))⟩
      refine AllReady.cons rfl (fun K hK => ?_) ?_
      · go_simp
        refine hK _ _ ?_
        clear hK K
        exact IH _ (by decide) _ _ _ ⟨Lb, W.heap.size, j, y, k, A, c, qs, nm, pt, D, e1, ds, p1, (Or.inr (Or.inr (Or.inr (Or.inl ⟨rfl, rfl, rfl, HS.out.newX, hp1⟩))))⟩
      exact AllReady.nil
    · have HS := Lib.hid hS
      clear hS
      refine wpAny_ready (rs := [2]) (by kernel_rfl) (by simp) ?_
      refine AllReady.cons rfl (fun K hK => ?_) ?_
      · go_simp
        refine (pick_any hi g p1 6 _ HS.out.1 (by omega) (by omega)).mono ?_
        rintro e w1 ⟨x1, rfl, hx1, hr1, hg1⟩
        obtain ⟨j, rfl, hj⟩ := pick_lit 6 rfl (by omega) hx1
        obtain ⟨y, hy⟩ : ∃ y, ([0, 1, 2, 129, 130, 127] : List Int).getD j 0 = y := ⟨_, rfl⟩
        have hji : (j : Int) < 6 := by omega
        have hp2 : p1 + 1 ≤ p + 1 := by omega
        have S1 := HS.out.call hr1 hg1 hgn
        clear hr1 hg1 hx1 HS
        refine hK _ _ ?_
        clear hK K
        refine wpAny_take (i := 3) (v := .pointer (some ⟨Lb, j, none⟩)) rfl (by kernel_rfl) (by kernel_rfl) (by kernel_rfl) (fun _ _ _ h => h) (Or.inl ⟨by rfl, by (intro w; go_simp)⟩) ?_
        exact IH _ (by decide) _ _ _ ⟨Lb, X, j, y, k, A, c, qs, nm, pt, D, e1, ds, (p1 + 1), (Or.inr (Or.inr (Or.inr (Or.inr (Or.inr (Or.inr (Or.inr (Or.inl ⟨rfl, rfl, rfl, S1, hp2, hj, hy⟩))))))))⟩
      exact AllReady.nil
    · have HS := Lib.hid hS
      clear hS
      have hji : (j : Int) < 6 := by omega
      refine wpAny_ready (rs := [0, 6, 10]) (by kernel_rfl) (by simp) ?_
      refine AllReady.cons rfl (fun K hK => ?_) ?_
      · go_simp
        refine hK _ _ ?_
        clear hK K
        refine wpAny_take (i := 3) (v := .pointer (some ⟨W.heap.size, j, none⟩)) rfl (by kernel_rfl) (by kernel_rfl) (by kernel_rfl) (fun _ _ _ h => h) (Or.inl ⟨by rfl, by (intro w; go_simp)⟩) ?_
        exact IH _ (by decide) _ _ _ ⟨W.heap.size, X, j, y, k, A, c, qs, nm, pt, D, e1, ds, p1, (Or.inr (Or.inr (Or.inr (Or.inr (Or.inr (Or.inr (Or.inl ⟨rfl, rfl, rfl, HS.out.newL, hp1, hj, hy⟩)))))))⟩
      refine AllReady.cons rfl (fun K hK => ?_) ?_
      · go_simp
        refine (l91Address_any hi g p1 _ HS.out.1 (by omega)).mono ?_
        rintro e w2 ⟨k, q, qs, nm, pt, p2, rfl, o2, hq4, hnm, hp2, hr2, hg2⟩
        obtain ⟨A, c, rfl, _, _, _⟩ := o2.form
        have S2 := (HS.out.call hr2 hg2 hgn).setA (o2.more HS.out.base)
        have hp3 : p2 ≤ p + 21 := by omega
        clear hr2 hg2 o2 HS
        refine hK _ _ ?_
        clear hK K
        exact IH _ (by decide) _ _ _ ⟨Lb, X, j, y, k, A, c, qs, nm, pt, D, e1, ds, p2, (Or.inr (Or.inr (Or.inr (Or.inr (Or.inr (Or.inr (Or.inr (Or.inr (Or.inr (Or.inr (Or.inl ⟨rfl, rfl, rfl, S2, hp3, hj, hy, hq4, hnm⟩)))))))))))⟩
      refine AllReady.cons rfl (fun K hK => ?_) ?_
      · go_simp
        refine hK _ _ ?_
        clear hK K
        exact IH _ (by decide) _ _ _ ⟨Lb, W.heap.size, j, y, k, A, c, qs, nm, pt, D, e1, ds, p1, (Or.inr (Or.inr (Or.inr (Or.inr (Or.inr (Or.inl ⟨rfl, rfl, rfl, HS.out.newX, hp1, hj, hy⟩))))))⟩
      exact AllReady.nil
    · have HS := Lib.hid hS
      clear hS
      have hji : (j : Int) < 6 := by omega
      refine wpAny_ready (rs := [0, 6]) (by kernel_rfl) (by simp) ?_
      refine AllReady.cons rfl (fun K hK => ?_) ?_
      · go_simp
        refine hK _ _ ?_
        clear hK K
        refine wpAny_take (i := 3) (v := .pointer (some ⟨W.heap.size, j, none⟩)) rfl (by kernel_rfl) (by kernel_rfl) (by kernel_rfl) (fun _ _ _ h => h) (Or.inl ⟨by rfl, by (intro w; go_simp)⟩) ?_
        exact IH _ (by decide) _ _ _ ⟨W.heap.size, X, j, y, k, A, c, qs, nm, pt, D, e1, ds, p1, (Or.inr (Or.inr (Or.inr (Or.inr (Or.inr (Or.inr (Or.inr (Or.inl ⟨rfl, rfl, rfl, HS.out.newL, hp1, hj, hy⟩))))))))⟩
      refine AllReady.cons rfl (fun K hK => ?_) ?_
      · go_simp
        refine (l91Address_any hi g p1 _ HS.out.1 (by omega)).mono ?_
        rintro e w2 ⟨k, q, qs, nm, pt, p2, rfl, o2, hq4, hnm, hp2, hr2, hg2⟩
        obtain ⟨A, c, rfl, _, _, _⟩ := o2.form
        have S2 := (HS.out.call hr2 hg2 hgn).setA (o2.more HS.out.base)
        have hp3 : p2 ≤ p + 21 := by omega
        clear hr2 hg2 o2 HS
        refine hK _ _ ?_
        clear hK K
        exact IH _ (by decide) _ _ _ ⟨Lb, X, j, y, k, A, c, qs, nm, pt, D, e1, ds, p2, (Or.inr (Or.inr (Or.inr (Or.inr (Or.inr (Or.inr (Or.inr (Or.inr (Or.inr (Or.inr (Or.inr (Or.inl ⟨rfl, rfl, rfl, S2, hp3, hj, hy, hq4, hnm⟩))))))))))))⟩
      exact AllReady.nil
    · have HS := Lib.hid hS
      clear hS
      have hji : (j : Int) < 6 := by omega
      refine wpAny_ready (rs := [4, 6, 10]) (by kernel_rfl) (by simp) ?_
      refine AllReady.cons rfl (fun K hK => ?_) ?_
      · have cl : W.cell? ⟨Lb, j, none⟩ = some (.int .i64 y) := HS.out.lit hj hy
        go_simp
        refine hK _ _ ?_
        clear hK K
        exact IH _ (by decide) _ _ _ ⟨Lb, X, j, y, k, A, c, qs, nm, pt, D, e1, ds, p1, (Or.inr (Or.inr (Or.inr (Or.inr (Or.inr (Or.inr (Or.inr (Or.inr (Or.inl ⟨rfl, rfl, rfl, HS.out, hp1, hj, hy⟩)))))))))⟩
      refine AllReady.cons rfl (fun K hK => ?_) ?_
      · go_simp
        refine (l91Address_any hi g p1 _ HS.out.1 (by omega)).mono ?_
        rintro e w2 ⟨k, q, qs, nm, pt, p2, rfl, o2, hq4, hnm, hp2, hr2, hg2⟩
        obtain ⟨A, c, rfl, _, _, _⟩ := o2.form
        have S2 := (HS.out.call hr2 hg2 hgn).setA (o2.more HS.out.base)
        have hp3 : p2 ≤ p + 21 := by omega
        clear hr2 hg2 o2 HS
        refine hK _ _ ?_
        clear hK K
        exact IH _ (by decide) _ _ _ ⟨Lb, X, j, y, k, A, c, qs, nm, pt, D, e1, ds, p2, (Or.inr (Or.inr (Or.inr (Or.inr (Or.inr (Or.inr (Or.inr (Or.inr (Or.inr (Or.inr (Or.inr (Or.inr (Or.inl ⟨rfl, rfl, rfl, S2, hp3, hj, hy, hq4, hnm⟩)))))))))))))⟩
      refine AllReady.cons rfl (fun K hK => ?_) ?_
      · go_simp
        refine hK _ _ ?_
        clear hK K
        exact IH _ (by decide) _ _ _ ⟨Lb, W.heap.size, j, y, k, A, c, qs, nm, pt, D, e1, ds, p1, (Or.inr (Or.inr (Or.inr (Or.inr (Or.inr (Or.inr (Or.inr (Or.inl ⟨rfl, rfl, rfl, HS.out.newX, hp1, hj, hy⟩))))))))⟩
      exact AllReady.nil
    · have HS := Lib.hid hS
      clear hS
      have hji : (j : Int) < 6 := by omega
      refine wpAny_ready (rs := [4, 6]) (by kernel_rfl) (by simp) ?_
      refine AllReady.cons rfl (fun K hK => ?_) ?_
      · have cl : W.cell? ⟨Lb, j, none⟩ = some (.int .i64 y) := HS.out.lit hj hy
        go_simp
        refine hK _ _ ?_
        clear hK K
        exact IH _ (by decide) _ _ _ ⟨Lb, X, j, y, k, A, c, qs, nm, pt, D, e1, ds, p1, (Or.inr (Or.inr (Or.inr (Or.inr (Or.inr (Or.inr (Or.inr (Or.inr (Or.inr (Or.inl ⟨rfl, rfl, rfl, HS.out, hp1, hj, hy⟩))))))))))⟩
      refine AllReady.cons rfl (fun K hK => ?_) ?_
      · go_simp
        refine (l91Address_any hi g p1 _ HS.out.1 (by omega)).mono ?_
        rintro e w2 ⟨k, q, qs, nm, pt, p2, rfl, o2, hq4, hnm, hp2, hr2, hg2⟩
        obtain ⟨A, c, rfl, _, _, _⟩ := o2.form
        have S2 := (HS.out.call hr2 hg2 hgn).setA (o2.more HS.out.base)
        have hp3 : p2 ≤ p + 21 := by omega
        clear hr2 hg2 o2 HS
        refine hK _ _ ?_
        clear hK K
        exact IH _ (by decide) _ _ _ ⟨Lb, X, j, y, k, A, c, qs, nm, pt, D, e1, ds, p2, (Or.inr (Or.inr (Or.inr (Or.inr (Or.inr (Or.inr (Or.inr (Or.inr (Or.inr (Or.inr (Or.inr (Or.inr (Or.inr (Or.inl ⟨rfl, rfl, rfl, S2, hp3, hj, hy, hq4, hnm⟩))))))))))))))⟩
      exact AllReady.nil
    · have HS := Lib.hid hS
      clear hS
      have hji : (j : Int) < 6 := by omega
      refine wpAny_ready (rs := [6, 10]) (by kernel_rfl) (by simp) ?_
      refine AllReady.cons rfl (fun K hK => ?_) ?_
      · go_simp
        refine (l91Address_any hi g p1 _ HS.out.1 (by omega)).mono ?_
        rintro e w2 ⟨k, q, qs, nm, pt, p2, rfl, o2, hq4, hnm, hp2, hr2, hg2⟩
        obtain ⟨A, c, rfl, _, _, _⟩ := o2.form
        have S2 := (HS.out.call hr2 hg2 hgn).setA (o2.more HS.out.base)
        have hp3 : p2 ≤ p + 21 := by omega
        clear hr2 hg2 o2 HS
        refine hK _ _ ?_
        clear hK K
        exact IH _ (by decide) _ _ _ ⟨Lb, X, j, y, k, A, c, qs, nm, pt, D, e1, ds, p2, (Or.inr (Or.inr (Or.inr (Or.inr (Or.inr (Or.inr (Or.inr (Or.inr (Or.inr (Or.inr (Or.inr (Or.inr (Or.inr (Or.inr (Or.inl ⟨rfl, rfl, rfl, S2, hp3, hj, hy, hq4, hnm⟩)))))))))))))))⟩
      refine AllReady.cons rfl (fun K hK => ?_) ?_
      · go_simp
        refine hK _ _ ?_
        clear hK K
        exact IH _ (by decide) _ _ _ ⟨Lb, W.heap.size, j, y, k, A, c, qs, nm, pt, D, e1, ds, p1, (Or.inr (Or.inr (Or.inr (Or.inr (Or.inr (Or.inr (Or.inr (Or.inr (Or.inr (Or.inl ⟨rfl, rfl, rfl, HS.out.newX, hp1, hj, hy⟩))))))))))⟩
      exact AllReady.nil
    · have HS := Lib.hid hS
      clear hS
      have hji : (j : Int) < 6 := by omega
      refine wpAny_ready (rs := [6]) (by kernel_rfl) (by simp) ?_
      refine AllReady.cons rfl (fun K hK => ?_) ?_
      · go_simp
        refine (l91Address_any hi g p1 _ HS.out.1 (by omega)).mono ?_
        rintro e w2 ⟨k, q, qs, nm, pt, p2, rfl, o2, hq4, hnm, hp2, hr2, hg2⟩
        obtain ⟨A, c, rfl, _, _, _⟩ := o2.form
        have S2 := (HS.out.call hr2 hg2 hgn).setA (o2.more HS.out.base)
        have hp3 : p2 ≤ p + 21 := by omega
        clear hr2 hg2 o2 HS
        refine hK _ _ ?_
        clear hK K
        exact IH _ (by decide) _ _ _ ⟨Lb, X, j, y, k, A, c, qs, nm, pt, D, e1, ds, p2, (Or.inr (Or.inr (Or.inr (Or.inr (Or.inr (Or.inr (Or.inr (Or.inr (Or.inr (Or.inr (Or.inr (Or.inr (Or.inr (Or.inr (Or.inr (Or.inl ⟨rfl, rfl, rfl, S2, hp3, hj, hy, hq4, hnm⟩))))))))))))))))⟩
      exact AllReady.nil
    · have HS := Lib.hid hS
      clear hS
      have hji : (j : Int) < 6 := by omega
      refine wpAny_ready (rs := [0, 8, 10]) (by kernel_rfl) (by simp) ?_
      refine AllReady.cons rfl (fun K hK => ?_) ?_
      · go_simp
        refine hK _ _ ?_
        clear hK K
        refine wpAny_take (i := 3) (v := .pointer (some ⟨W.heap.size, j, none⟩)) rfl (by kernel_rfl) (by kernel_rfl) (by kernel_rfl) (fun _ _ _ h => h) (Or.inl ⟨by rfl, by (intro w; go_simp)⟩) ?_
        exact IH _ (by decide) _ _ _ ⟨W.heap.size, X, j, y, k, A, c, qs, nm, pt, D, e1, ds, p1, (Or.inr (Or.inr (Or.inr (Or.inr (Or.inr (Or.inr (Or.inr (Or.inr (Or.inr (Or.inr (Or.inr (Or.inr (Or.inl ⟨rfl, rfl, rfl, HS.out.newL, hp1, hj, hy, hq4, hnm⟩)))))))))))))⟩
      refine AllReady.cons rfl (fun K hK => ?_) ?_
      · go_simp
        refine (l91Bytes_any hi g p1 8 _ HS.out.1 (by omega) (by omega)).mono ?_
        rintro e w3 ⟨d, ds, p2, rfl, o3, hd8, hp2, hr3, hg3⟩
        obtain ⟨D, e1, rfl, _, _, _⟩ := o3.form
        have S3 := (HS.out.call hr3 hg3 hgn).setB (o3.more HS.out.base)
        have hp3 : p2 ≤ p + 421 := by omega
        clear hr3 hg3 o3 HS
        refine hK _ _ ?_
        clear hK K
        exact IH _ (by decide) _ _ _ ⟨Lb, X, j, y, k, A, c, qs, nm, pt, D, e1, ds, p2, (Or.inr (Or.inr (Or.inr (Or.inr (Or.inr (Or.inr (Or.inr (Or.inr (Or.inr (Or.inr (Or.inr (Or.inr (Or.inr (Or.inr (Or.inr (Or.inr (Or.inl ⟨rfl, rfl, rfl, S3, hp3, hj, hy, hq4, hnm, hd8⟩)))))))))))))))))⟩
      refine AllReady.cons rfl (fun K hK => ?_) ?_
      · go_simp
        refine hK _ _ ?_
        clear hK K
        exact IH _ (by decide) _ _ _ ⟨Lb, W.heap.size, j, y, k, A, c, qs, nm, pt, D, e1, ds, p1, (Or.inr (Or.inr (Or.inr (Or.inr (Or.inr (Or.inr (Or.inr (Or.inr (Or.inr (Or.inr (Or.inr (Or.inl ⟨rfl, rfl, rfl, HS.out.newX, hp1, hj, hy, hq4, hnm⟩))))))))))))⟩
      exact AllReady.nil
    · have HS := Lib.hid hS
      clear hS
      have hji : (j : Int) < 6 := by omega
      refine wpAny_ready (rs := [0, 8]) (by kernel_rfl) (by simp) ?_
      refine AllReady.cons rfl (fun K hK => ?_) ?_
      · go_simp
        refine hK _ _ ?_
        clear hK K
        refine wpAny_take (i := 3) (v := .pointer (some ⟨W.heap.size, j, none⟩)) rfl (by kernel_rfl) (by kernel_rfl) (by kernel_rfl) (fun _ _ _ h => h) (Or.inl ⟨by rfl, by (intro w; go_simp)⟩) ?_
        exact IH _ (by decide) _ _ _ ⟨W.heap.size, X, j, y, k, A, c, qs, nm, pt, D, e1, ds, p1, (Or.inr (Or.inr (Or.inr (Or.inr (Or.inr (Or.inr (Or.inr (Or.inr (Or.inr (Or.inr (Or.inr (Or.inr (Or.inr (Or.inl ⟨rfl, rfl, rfl, HS.out.newL, hp1, hj, hy, hq4, hnm⟩))))))))))))))⟩
      refine AllReady.cons rfl (fun K hK => ?_) ?_
      · go_simp
        refine (l91Bytes_any hi g p1 8 _ HS.out.1 (by omega) (by omega)).mono ?_
        rintro e w3 ⟨d, ds, p2, rfl, o3, hd8, hp2, hr3, hg3⟩
        obtain ⟨D, e1, rfl, _, _, _⟩ := o3.form
        have S3 := (HS.out.call hr3 hg3 hgn).setB (o3.more HS.out.base)
        have hp3 : p2 ≤ p + 421 := by omega
        clear hr3 hg3 o3 HS
        refine hK _ _ ?_
        clear hK K
        exact IH _ (by decide) _ _ _ ⟨Lb, X, j, y, k, A, c, qs, nm, pt, D, e1, ds, p2, (Or.inr (Or.inr (Or.inr (Or.inr (Or.inr (Or.inr (Or.inr (Or.inr (Or.inr (Or.inr (Or.inr (Or.inr (Or.inr (Or.inr (Or.inr (Or.inr (Or.inr (Or.inl ⟨rfl, rfl, rfl, S3, hp3, hj, hy, hq4, hnm, hd8⟩))))))))))))))))))⟩
      exact AllReady.nil
    · have HS := Lib.hid hS
      clear hS
      have hji : (j : Int) < 6 := by omega
      refine wpAny_ready (rs := [4, 8, 10]) (by kernel_rfl) (by simp) ?_
      refine AllReady.cons rfl (fun K hK => ?_) ?_
      · have cl : W.cell? ⟨Lb, j, none⟩ = some (.int .i64 y) := HS.out.lit hj hy
        go_simp
        refine hK _ _ ?_
        clear hK K
        exact IH _ (by decide) _ _ _ ⟨Lb, X, j, y, k, A, c, qs, nm, pt, D, e1, ds, p1, (Or.inr (Or.inr (Or.inr (Or.inr (Or.inr (Or.inr (Or.inr (Or.inr (Or.inr (Or.inr (Or.inr (Or.inr (Or.inr (Or.inr (Or.inl ⟨rfl, rfl, rfl, HS.out, hp1, hj, hy, hq4, hnm⟩)))))))))))))))⟩
      refine AllReady.cons rfl (fun K hK => ?_) ?_
      · go_simp
        refine (l91Bytes_any hi g p1 8 _ HS.out.1 (by omega) (by omega)).mono ?_
        rintro e w3 ⟨d, ds, p2, rfl, o3, hd8, hp2, hr3, hg3⟩
        obtain ⟨D, e1, rfl, _, _, _⟩ := o3.form
        have S3 := (HS.out.call hr3 hg3 hgn).setB (o3.more HS.out.base)
        have hp3 : p2 ≤ p + 421 := by omega
        clear hr3 hg3 o3 HS
        refine hK _ _ ?_
        clear hK K
        exact IH _ (by decide) _ _ _ ⟨Lb, X, j, y, k, A, c, qs, nm, pt, D, e1, ds, p2, (Or.inr (Or.inr (Or.inr (Or.inr (Or.inr (Or.inr (Or.inr (Or.inr (Or.inr (Or.inr (Or.inr (Or.inr (Or.inr (Or.inr (Or.inr (Or.inr (Or.inr (Or.inr (Or.inl ⟨rfl, rfl, rfl, S3, hp3, hj, hy, hq4, hnm, hd8⟩)))))))))))))))))))⟩
      refine AllReady.cons rfl (fun K hK => ?_) ?_
      · go_simp
        refine hK _ _ ?_
        clear hK K
        exact IH _ (by decide) _ _ _ ⟨Lb, W.heap.size, j, y, k, A, c, qs, nm, pt, D, e1, ds, p1, (Or.inr (Or.inr (Or.inr (Or.inr (Or.inr (Or.inr (Or.inr (Or.inr (Or.inr (Or.inr (Or.inr (Or.inr (Or.inr (Or.inl ⟨rfl, rfl, rfl, HS.out.newX, hp1, hj, hy, hq4, hnm⟩))))))))))))))⟩
      exact AllReady.nil
    · have HS := Lib.hid hS
      clear hS
      have hji : (j : Int) < 6 := by omega
      refine wpAny_ready (rs := [4, 8]) (by kernel_rfl) (by simp) ?_
      refine AllReady.cons rfl (fun K hK => ?_) ?_
      · have cl : W.cell? ⟨Lb, j, none⟩ = some (.int .i64 y) := HS.out.lit hj hy
        go_simp
        refine hK _ _ ?_
        clear hK K
        exact IH _ (by decide) _ _ _ ⟨Lb, X, j, y, k, A, c, qs, nm, pt, D, e1, ds, p1, (Or.inr (Or.inr (Or.inr (Or.inr (Or.inr (Or.inr (Or.inr (Or.inr (Or.inr (Or.inr (Or.inr (Or.inr (Or.inr (Or.inr (Or.inr (Or.inl ⟨rfl, rfl, rfl, HS.out, hp1, hj, hy, hq4, hnm⟩))))))))))))))))⟩
      refine AllReady.cons rfl (fun K hK => ?_) ?_
      · go_simp
        refine (l91Bytes_any hi g p1 8 _ HS.out.1 (by omega) (by omega)).mono ?_
        rintro e w3 ⟨d, ds, p2, rfl, o3, hd8, hp2, hr3, hg3⟩
        obtain ⟨D, e1, rfl, _, _, _⟩ := o3.form
        have S3 := (HS.out.call hr3 hg3 hgn).setB (o3.more HS.out.base)
        have hp3 : p2 ≤ p + 421 := by omega
        clear hr3 hg3 o3 HS
        refine hK _ _ ?_
        clear hK K
        exact IH _ (by decide) _ _ _ ⟨Lb, X, j, y, k, A, c, qs, nm, pt, D, e1, ds, p2, (Or.inr (Or.inr (Or.inr (Or.inr (Or.inr (Or.inr (Or.inr (Or.inr (Or.inr (Or.inr (Or.inr (Or.inr (Or.inr (Or.inr (Or.inr (Or.inr (Or.inr (Or.inr (Or.inr (Or.inl ⟨rfl, rfl, rfl, S3, hp3, hj, hy, hq4, hnm, hd8⟩))))))))))))))))))))⟩
      exact AllReady.nil
    · have HS := Lib.hid hS
      clear hS
      have hji : (j : Int) < 6 := by omega
      refine wpAny_ready (rs := [8, 10]) (by kernel_rfl) (by simp) ?_
      refine AllReady.cons rfl (fun K hK => ?_) ?_
      · go_simp
        refine (l91Bytes_any hi g p1 8 _ HS.out.1 (by omega) (by omega)).mono ?_
        rintro e w3 ⟨d, ds, p2, rfl, o3, hd8, hp2, hr3, hg3⟩
        obtain ⟨D, e1, rfl, _, _, _⟩ := o3.form
        have S3 := (HS.out.call hr3 hg3 hgn).setB (o3.more HS.out.base)
        have hp3 : p2 ≤ p + 421 := by omega
        clear hr3 hg3 o3 HS
        refine hK _ _ ?_
        clear hK K
        refine wpAny_take (i := 9) (v := .agg #[.int .i64 y, .int .i64 k, .slice A qs.length c, .string nm, .int .i64 pt, .slice D ds.length e1]) rfl (by kernel_rfl) (by kernel_rfl) (by kernel_rfl) (fun _ _ _ h => h) (Or.inl ⟨by rfl, by (intro w; go_simp)⟩) ?_
        exact IH _ (by decide) _ _ _ ⟨Lb, X, j, y, k, A, c, qs, nm, pt, D, e1, ds, p2, (Or.inr (Or.inr (Or.inr (Or.inr (Or.inr (Or.inr (Or.inr (Or.inr (Or.inr (Or.inr (Or.inr (Or.inr (Or.inr (Or.inr (Or.inr (Or.inr (Or.inr (Or.inr (Or.inr (Or.inr (Or.inl ⟨rfl, rfl, rfl, S3, hp3, hj, hy, hq4, hnm, hd8⟩)))))))))))))))))))))⟩
      refine AllReady.cons rfl (fun K hK => ?_) ?_
      · go_simp
        refine hK _ _ ?_
        clear hK K
        exact IH _ (by decide) _ _ _ ⟨Lb, W.heap.size, j, y, k, A, c, qs, nm, pt, D, e1, ds, p1, (Or.inr (Or.inr (Or.inr (Or.inr (Or.inr (Or.inr (Or.inr (Or.inr (Or.inr (Or.inr (Or.inr (Or.inr (Or.inr (Or.inr (Or.inr (Or.inl ⟨rfl, rfl, rfl, HS.out.newX, hp1, hj, hy, hq4, hnm⟩))))))))))))))))⟩
      exact AllReady.nil
    · have HS := Lib.hid hS
      clear hS
      have hji : (j : Int) < 6 := by omega
      refine wpAny_ready (rs := [8]) (by kernel_rfl) (by simp) ?_
      refine AllReady.cons rfl (fun K hK => ?_) ?_
      · go_simp
        refine (l91Bytes_any hi g p1 8 _ HS.out.1 (by omega) (by omega)).mono ?_
        rintro e w3 ⟨d, ds, p2, rfl, o3, hd8, hp2, hr3, hg3⟩
        obtain ⟨D, e1, rfl, _, _, _⟩ := o3.form
        have S3 := (HS.out.call hr3 hg3 hgn).setB (o3.more HS.out.base)
        have hp3 : p2 ≤ p + 421 := by omega
        clear hr3 hg3 o3 HS
        refine hK _ _ ?_
        clear hK K
        refine wpAny_take (i := 9) (v := .agg #[.int .i64 y, .int .i64 k, .slice A qs.length c, .string nm, .int .i64 pt, .slice D ds.length e1]) rfl (by kernel_rfl) (by kernel_rfl) (by kernel_rfl) (fun _ _ _ h => h) (Or.inl ⟨by rfl, by (intro w; go_simp)⟩) ?_
        exact IH _ (by decide) _ _ _ ⟨Lb, X, j, y, k, A, c, qs, nm, pt, D, e1, ds, p2, (Or.inr (Or.inr (Or.inr (Or.inr (Or.inr (Or.inr (Or.inr (Or.inr (Or.inr (Or.inr (Or.inr (Or.inr (Or.inr (Or.inr (Or.inr (Or.inr (Or.inr (Or.inr (Or.inr (Or.inr (Or.inr ⟨rfl, rfl, rfl, S3, hp3, hj, hy, hq4, hnm, hd8⟩)))))))))))))))))))))⟩
      exact AllReady.nil
    · have HS := Lib.hid hS
      clear hS
      have hji : (j : Int) < 6 := by omega
      refine wpAny_ready (rs := [0, 10]) (by kernel_rfl) (by simp) ?_
      refine AllReady.cons rfl (fun K hK => ?_) ?_
      · go_simp
        refine hK _ _ ?_
        clear hK K
        refine wpAny_take (i := 3) (v := .pointer (some ⟨W.heap.size, j, none⟩)) rfl (by kernel_rfl) (by kernel_rfl) (by kernel_rfl) (fun _ _ _ h => h) (Or.inl ⟨by rfl, by (intro w; go_simp)⟩) ?_
        exact IH _ (by decide) _ _ _ ⟨W.heap.size, X, j, y, k, A, c, qs, nm, pt, D, e1, ds, p1, (Or.inr (Or.inr (Or.inr (Or.inr (Or.inr (Or.inr (Or.inr (Or.inr (Or.inr (Or.inr (Or.inr (Or.inr (Or.inr (Or.inr (Or.inr (Or.inr (Or.inr (Or.inr (Or.inl ⟨rfl, rfl, rfl, HS.out.newL, hp1, hj, hy, hq4, hnm, hd8⟩)))))))))))))))))))⟩
      refine AllReady.cons rfl (fun K hK => ?_) ?_
      · go_simp
        refine hK _ _ ?_
        clear hK K
        exact IH _ (by decide) _ _ _ ⟨Lb, W.heap.size, j, y, k, A, c, qs, nm, pt, D, e1, ds, p1, (Or.inr (Or.inr (Or.inr (Or.inr (Or.inr (Or.inr (Or.inr (Or.inr (Or.inr (Or.inr (Or.inr (Or.inr (Or.inr (Or.inr (Or.inr (Or.inr (Or.inr (Or.inl ⟨rfl, rfl, rfl, HS.out.newX, hp1, hj, hy, hq4, hnm, hd8⟩))))))))))))))))))⟩
      exact AllReady.nil
    · have HS := Lib.hid hS
      clear hS
      have hji : (j : Int) < 6 := by omega
      refine wpAny_ready (rs := [0]) (by kernel_rfl) (by simp) ?_
      refine AllReady.cons rfl (fun K hK => ?_) ?_
      · go_simp
        refine hK _ _ ?_
        clear hK K
        refine wpAny_take (i := 3) (v := .pointer (some ⟨W.heap.size, j, none⟩)) rfl (by kernel_rfl) (by kernel_rfl) (by kernel_rfl) (fun _ _ _ h => h) (Or.inl ⟨by rfl, by (intro w; go_simp)⟩) ?_
        exact IH _ (by decide) _ _ _ ⟨W.heap.size, X, j, y, k, A, c, qs, nm, pt, D, e1, ds, p1, (Or.inr (Or.inr (Or.inr (Or.inr (Or.inr (Or.inr (Or.inr (Or.inr (Or.inr (Or.inr (Or.inr (Or.inr (Or.inr (Or.inr (Or.inr (Or.inr (Or.inr (Or.inr (Or.inr (Or.inl ⟨rfl, rfl, rfl, HS.out.newL, hp1, hj, hy, hq4, hnm, hd8⟩))))))))))))))))))))⟩
      exact AllReady.nil
    · have HS := Lib.hid hS
      clear hS
      have hji : (j : Int) < 6 := by omega
      refine wpAny_ready (rs := [4, 10]) (by kernel_rfl) (by simp) ?_
      refine AllReady.cons rfl (fun K hK => ?_) ?_
      · have cl : W.cell? ⟨Lb, j, none⟩ = some (.int .i64 y) := HS.out.lit hj hy
        go_simp
        refine hK _ _ ?_
        clear hK K
        refine wpAny_take (i := 9) (v := .agg #[.int .i64 y, .int .i64 k, .slice A qs.length c, .string nm, .int .i64 pt, .slice D ds.length e1]) rfl (by kernel_rfl) (by kernel_rfl) (by kernel_rfl) (fun _ _ _ h => h) (Or.inl ⟨by rfl, by (intro w; go_simp)⟩) ?_
        exact IH _ (by decide) _ _ _ ⟨Lb, X, j, y, k, A, c, qs, nm, pt, D, e1, ds, p1, (Or.inr (Or.inr (Or.inr (Or.inr (Or.inr (Or.inr (Or.inr (Or.inr (Or.inr (Or.inr (Or.inr (Or.inr (Or.inr (Or.inr (Or.inr (Or.inr (Or.inr (Or.inr (Or.inr (Or.inr (Or.inl ⟨rfl, rfl, rfl, HS.out, hp1, hj, hy, hq4, hnm, hd8⟩)))))))))))))))))))))⟩
      refine AllReady.cons rfl (fun K hK => ?_) ?_
      · go_simp
        refine hK _ _ ?_
        clear hK K
        exact IH _ (by decide) _ _ _ ⟨Lb, W.heap.size, j, y, k, A, c, qs, nm, pt, D, e1, ds, p1, (Or.inr (Or.inr (Or.inr (Or.inr (Or.inr (Or.inr (Or.inr (Or.inr (Or.inr (Or.inr (Or.inr (Or.inr (Or.inr (Or.inr (Or.inr (Or.inr (Or.inr (Or.inr (Or.inr (Or.inl ⟨rfl, rfl, rfl, HS.out.newX, hp1, hj, hy, hq4, hnm, hd8⟩))))))))))))))))))))⟩
      exact AllReady.nil
    · have HS := Lib.hid hS
      clear hS
      have hji : (j : Int) < 6 := by omega
      refine wpAny_ready (rs := [4]) (by kernel_rfl) (by simp) ?_
      refine AllReady.cons rfl (fun K hK => ?_) ?_
      · have cl : W.cell? ⟨Lb, j, none⟩ = some (.int .i64 y) := HS.out.lit hj hy
        go_simp
        refine hK _ _ ?_
        clear hK K
        refine wpAny_take (i := 9) (v := .agg #[.int .i64 y, .int .i64 k, .slice A qs.length c, .string nm, .int .i64 pt, .slice D ds.length e1]) rfl (by kernel_rfl) (by kernel_rfl) (by kernel_rfl) (fun _ _ _ h => h) (Or.inl ⟨by rfl, by (intro w; go_simp)⟩) ?_
        exact IH _ (by decide) _ _ _ ⟨Lb, X, j, y, k, A, c, qs, nm, pt, D, e1, ds, p1, (Or.inr (Or.inr (Or.inr (Or.inr (Or.inr (Or.inr (Or.inr (Or.inr (Or.inr (Or.inr (Or.inr (Or.inr (Or.inr (Or.inr (Or.inr (Or.inr (Or.inr (Or.inr (Or.inr (Or.inr (Or.inr ⟨rfl, rfl, rfl, HS.out, hp1, hj, hy, hq4, hnm, hd8⟩)))))))))))))))))))))⟩
      exact AllReady.nil
    · have HS := Lib.hid hS
      clear hS
      have hji : (j : Int) < 6 := by omega
      refine wpAny_ready (rs := [10]) (by kernel_rfl) (by simp) ?_
      refine AllReady.cons rfl (fun K hK => ?_) ?_
      · go_simp
        refine hK _ _ ?_
        clear hK K
        exact IH _ (by decide) _ _ _ ⟨Lb, W.heap.size, j, y, k, A, c, qs, nm, pt, D, e1, ds, p1, (Or.inr (Or.inr (Or.inr (Or.inr (Or.inr (Or.inr (Or.inr (Or.inr (Or.inr (Or.inr (Or.inr (Or.inr (Or.inr (Or.inr (Or.inr (Or.inr (Or.inr (Or.inr (Or.inr (Or.inr (Or.inr ⟨rfl, rfl, rfl, HS.out.newX, hp1, hj, hy, hq4, hnm, hd8⟩)))))))))))))))))))))⟩
      exact AllReady.nil
    · have HS := Lib.hid hS
      clear hS
      have hji : (j : Int) < 6 := by omega
      refine wpAny_ready (rs := [11]) (by kernel_rfl) (by simp) ?_
      refine AllReady.cons rfl (fun K hK => ?_) ?_
      · have bx := HS.out.2.2.2.2.1 rfl
        have c0 : W.cell? ⟨X, 0, none⟩ = some (.int .i64 0) := bx.1.cell 0
        have f0 := bx.1.free 0
        have c1 : W.cell? ⟨X, 1, none⟩ = some (.int .i64 0) := bx.1.cell 1
        have f1 := bx.1.free 1
        have c2 : W.cell? ⟨X, 2, none⟩ = some (.slice none 0 0) := bx.1.cell 2
        have f2 := bx.1.free 2
        have c3 : W.cell? ⟨X, 3, none⟩ = some (.string ⟨#[]⟩) := bx.1.cell 3
        have f3 := bx.1.free 3
        have c4 : W.cell? ⟨X, 4, none⟩ = some (.int .i64 0) := bx.1.cell 4
        have f4 := bx.1.free 4
        have c5 : W.cell? ⟨X, 5, none⟩ = some (.slice none 0 0) := bx.1.cell 5
        have f5 := bx.1.free 5
        go_simp
        refine hK _ _ ?_
        clear hK K
        refine wpAny_done (by kernel_rfl) ?_ _
        have PD := HS.out.fin (y := y) (k := k) (nm := nm) (pt := pt) hhi
        go_wp2_with fail
        go_meet
        exact ⟨X, y, k, _, qs, nm, pt, _, ds, p1, rfl, by omega, hq4, hnm, hd8, PD⟩
      exact AllReady.nil
  case rest =>
    obtain ⟨X, y, k, q, qs, nm, pt, d, ds, p3, rfl, hp3, l2, hs, ld, pd⟩ := hcut
    obtain ⟨A, c, rfl, _, _, _⟩ := pd.1.2.1.form
    obtain ⟨D, e1, rfl, _, _, _⟩ := pd.1.2.2.1.form
    have PD := Lib.hid pd
    have gne : g ≠ w.heap.size := by omega
    have hX := pd.2.1
    clear pd K0 R0 G0 S0
    go_wp2_with fail
    refine (pick_any hi g p3 30 _ PD.out.1.1 (by omega) (by omega)).mono ?_
    rintro e w4 ⟨x4, rfl, _, hr4, hg4⟩
    have P4 := Lib.hid (PD.out.grown hr4 hg4 gne)
    clear hr4 hg4
    by_cases h0 : x4 = 0
    · subst h0
      go_wp2_with fail
      refine (pick_any hi g (p3 + 1) 4 _ (P4.out.1.1.alloc _) (by omega) (by omega)).mono ?_
      rintro e w5 ⟨x5, rfl, hx5, hr5, hg5⟩
      obtain ⟨j, rfl, hj⟩ := pick_lit 4 rfl (by omega) hx5
      have cj := own_lit_cell (L := [-1, 128, 256, 255]) (P4.out.1.1.alloc _) hg5 (by simp) (j := j) (by simpa using hj)
      obtain ⟨z, hz⟩ : ∃ z, ([-1, 128, 256, 255] : List Int).getD j 0 = z := ⟨_, rfl⟩
      rw [hz] at cj
      have hji : (j : Int) < 4 := by omega
      have P5 := Lib.hid ((P4.out.alloc _).grown hr5 hg5 gne)
      have X_ := P5.out.2.2.2
      have K_ := P5.out.1.2.2.2.2
      have xf0 := X_.free 0
      have x0 : w5.cell? ⟨X, 0, none⟩ = some (.int .i64 y) := X_.cell 0
      have x1 : w5.cell? ⟨X, 1, none⟩ = some (.int .i64 k) := X_.cell 1
      have x2 : w5.cell? ⟨X, 2, none⟩ = some (.slice A qs.length c) := X_.cell 2
      have x3 : w5.cell? ⟨X, 3, none⟩ = some (.string nm) := X_.cell 3
      have x4 : w5.cell? ⟨X, 4, none⟩ = some (.int .i64 pt) := X_.cell 4
      have x5 : w5.cell? ⟨X, 5, none⟩ = some (.slice D ds.length e1) := X_.cell 5
      have f0 := K_.free 0
      have f1 := K_.free 1
      have f2 := K_.free 2
      have f3 := K_.free 3
      have f4 := K_.free 4
      have f5 := K_.free 5
      have c0 : w5.cell? ⟨w.heap.size, 0, none⟩ = some (.int .i64 0) := K_.cell 0
      have c1 : w5.cell? ⟨w.heap.size, 1, none⟩ = some (.int .i64 0) := K_.cell 1
      have c2 : w5.cell? ⟨w.heap.size, 2, none⟩ = some (.slice none 0 0) := K_.cell 2
      have c3 : w5.cell? ⟨w.heap.size, 3, none⟩ = some (.string .empty) := K_.cell 3
      have c4 : w5.cell? ⟨w.heap.size, 4, none⟩ = some (.int .i64 0) := K_.cell 4
      have c5 : w5.cell? ⟨w.heap.size, 5, none⟩ = some (.slice none 0 0) := K_.cell 5
      have n1 : w.heap.size ≠ X := by omega
      have n2 : X ≠ w.heap.size := by omega
      clear X_ K_
      clear hr5 hg5 hx5 hz
      go_wp2_with fail
      refine bodyPost_ret (v := .agg #[.int .i64 z, .int .i64 k, .slice A qs.length c, .string nm, .int .i64 pt, .slice D ds.length e1]) (by simp [results, Tryd.results69, go_sem, c0, c1, c2, c3, c4, c5]) rfl ?_
      exact (P5.out.set0 hhi z).end_ hhi hgw l2 hs (by omega) (by omega) _ _ _ _ _ _
    · have h0' : (x4 == 0) = false := by simpa using h0
      clear h0
      by_cases h1 : x4 = 1
      · subst h1
        go_wp2_with fail
        refine (pick_any hi g (p3 + 1) 2 _ P4.out.1.1 (by omega) (by omega)).mono ?_
        rintro e w5 ⟨x5, rfl, hx5, hr5, hg5⟩
        obtain ⟨j, rfl, hj⟩ := pick_lit 2 rfl (by omega) hx5
        have P5 := Lib.hid (P4.out.grown hr5 hg5 gne)
        have hmk := mk_ints (40 + j) (by omega)
        have OZ := Lib.hid (Own.lit w5 (List.replicate (40 + j) 0) (w.heap.size + 1) P5.out.1.2.2.2.2.lt (by simp; omega))
        rw [List.length_replicate] at OZ
        have hXl : X < w5.heap.size := P5.out.2.2.2.lt
        have hwl : w.heap.size < w5.heap.size := P5.out.1.2.2.2.2.lt
        simp only [Int.natCast_add, Int.cast_ofNat_Int] at hmk
        have hw1 : IntKind.i64.wrap (40 + (j : Int)) = 40 + (j : Int) := IntWalk.i64_in _ (by omega)
        have hw2 : wrap64 (40 + (j : Int)) = 40 + (j : Int) := IntWalk.wrap64_in _ (by omega)
        have hlr := rep_len hj
        have hp5 : p3 + 1 + 1 ≤ p + 500 := by omega
        have HE := Lib.hid fun (a b c e f t : Value) => ((P5.out.alloc (.cells (iv (List.replicate (40 + j) 0)).toArray 3)).set5 OZ.out hhi).end_ (p0 := p) hhi hgw l2 hs hlr hp5 a b c e f t
        have X_ := P5.out.2.2.2
        have K_ := P5.out.1.2.2.2.2
        have xf5 := X_.free 5
        have x0 : w5.cell? ⟨X, 0, none⟩ = some (.int .i64 y) := X_.cell 0
        have x1 : w5.cell? ⟨X, 1, none⟩ = some (.int .i64 k) := X_.cell 1
        have x2 : w5.cell? ⟨X, 2, none⟩ = some (.slice A qs.length c) := X_.cell 2
        have x3 : w5.cell? ⟨X, 3, none⟩ = some (.string nm) := X_.cell 3
        have x4 : w5.cell? ⟨X, 4, none⟩ = some (.int .i64 pt) := X_.cell 4
        have x5 : w5.cell? ⟨X, 5, none⟩ = some (.slice D ds.length e1) := X_.cell 5
        have f0 := K_.free 0
        have f1 := K_.free 1
        have f2 := K_.free 2
        have f3 := K_.free 3
        have f4 := K_.free 4
        have f5 := K_.free 5
        have c0 : w5.cell? ⟨w.heap.size, 0, none⟩ = some (.int .i64 0) := K_.cell 0
        have c1 : w5.cell? ⟨w.heap.size, 1, none⟩ = some (.int .i64 0) := K_.cell 1
        have c2 : w5.cell? ⟨w.heap.size, 2, none⟩ = some (.slice none 0 0) := K_.cell 2
        have c3 : w5.cell? ⟨w.heap.size, 3, none⟩ = some (.string .empty) := K_.cell 3
        have c4 : w5.cell? ⟨w.heap.size, 4, none⟩ = some (.int .i64 0) := K_.cell 4
        have c5 : w5.cell? ⟨w.heap.size, 5, none⟩ = some (.slice none 0 0) := K_.cell 5
        have n1 : w.heap.size ≠ X := by omega
        have n2 : X ≠ w.heap.size := by omega
        clear X_ K_
        clear hr5 hg5 hx5
        go_wp2_with fail
        refine bodyPost_ret (v := .agg #[.int .i64 y, .int .i64 k, .slice A qs.length c, .string nm, .int .i64 pt, .slice (some ⟨w5.heap.size, 0, none⟩) (40 + j) (40 + j)]) (by simp [results, Tryd.results69, go_sem, hwl, c0, c1, c2, c3, c4, c5]) rfl ?_
        have h := HE.out (.int .i64 y) (.int .i64 k) (.slice A qs.length c) (.string nm) (.int .i64 pt) (.slice (some ⟨w5.heap.size, 0, none⟩) (40 + j) (40 + j))
        rw [World.setCell_alloc_past _ _ _ _ hXl, World.setCell_alloc_past _ _ _ _ (by simpa using hwl), World.setCell_alloc_past _ _ _ _ (by simpa using hwl), World.setCell_alloc_past _ _ _ _ (by simpa using hwl), World.setCell_alloc_past _ _ _ _ (by simpa using hwl), World.setCell_alloc_past _ _ _ _ (by simpa using hwl), World.setCell_alloc_past _ _ _ _ (by simpa using hwl)] at h
        exact h
      · have h1' : (x4 == 1) = false := by simpa using h1
        clear h1
        have X_ := P4.out.2.2.2
        have K_ := P4.out.1.2.2.2.2
        have x0 : w4.cell? ⟨X, 0, none⟩ = some (.int .i64 y) := X_.cell 0
        have x1 : w4.cell? ⟨X, 1, none⟩ = some (.int .i64 k) := X_.cell 1
        have x2 : w4.cell? ⟨X, 2, none⟩ = some (.slice A qs.length c) := X_.cell 2
        have x3 : w4.cell? ⟨X, 3, none⟩ = some (.string nm) := X_.cell 3
        have x4 : w4.cell? ⟨X, 4, none⟩ = some (.int .i64 pt) := X_.cell 4
        have x5 : w4.cell? ⟨X, 5, none⟩ = some (.slice D ds.length e1) := X_.cell 5
        have f0 := K_.free 0
        have f1 := K_.free 1
        have f2 := K_.free 2
        have f3 := K_.free 3
        have f4 := K_.free 4
        have f5 := K_.free 5
        have c0 : w4.cell? ⟨w.heap.size, 0, none⟩ = some (.int .i64 0) := K_.cell 0
        have c1 : w4.cell? ⟨w.heap.size, 1, none⟩ = some (.int .i64 0) := K_.cell 1
        have c2 : w4.cell? ⟨w.heap.size, 2, none⟩ = some (.slice none 0 0) := K_.cell 2
        have c3 : w4.cell? ⟨w.heap.size, 3, none⟩ = some (.string .empty) := K_.cell 3
        have c4 : w4.cell? ⟨w.heap.size, 4, none⟩ = some (.int .i64 0) := K_.cell 4
        have c5 : w4.cell? ⟨w.heap.size, 5, none⟩ = some (.slice none 0 0) := K_.cell 5
        have n1 : w.heap.size ≠ X := by omega
        have n2 : X ≠ w.heap.size := by omega
        clear X_ K_
        go_wp2_with fail
        refine bodyPost_ret (v := .agg #[.int .i64 y, .int .i64 k, .slice A qs.length c, .string nm, .int .i64 pt, .slice D ds.length e1]) (by simp [results, Tryd.results69, go_sem, c0, c1, c2, c3, c4, c5]) rfl ?_
        exact P4.out.end_ hhi hgw l2 hs (by omega) (by omega) _ _ _ _ _ _

/-- Behind a packet drawn from a code. -/
def DrewPk1 (w : World) (e : Ending) (w' : World) : Prop :=
  ∃ f k q qs nm pt d ds, e = .returned (.agg #[.int .i64 f, .int .i64 k, q, .string nm, .int .i64 pt, d]) ∧ Own w' w.heap.size q qs ∧ Own w' w.heap.size d ds ∧ qs.length ≤ 4 ∧ nm.size ≤ 21 ∧ ds.length ≤ 100 ∧ Below w.heap.size w w'

set_option maxRecDepth 100000 in
set_option maxHeartbeats 4000000 in
theorem DrawPacketBytes_any (v : Value) (bs : List Int) (w : World) (hv : Came .u8 w w.heap.size v bs) : Calls Tryd.prog 26 #[v] w fun e w' => DrewPk1 w e w' := by
  go_enter Tryd.func26, Tryd.ntmps26
  go_wp2_with fail
  refine (l6Open_any _ bs w.heap.size _ (hv.keep fun b hb => Below.heap_alloc w _ b hb) (by simp)).mono ?_
  rintro e w1 ⟨rfl, r1, b1⟩
  simp only [World.size_alloc] at r1 b1 ⊢
  have K1 := Lib.hid ((Blk.new w 41 #[.int .i64 0, .int .i64 0, .slice none 0 0, .string .empty, .int .i64 0, .slice none 0 0]).below b1 (Nat.lt_succ_self _))
  have R1 := Lib.hid r1
  have B1 : Hid (Below w.heap.size w w1) := Lib.hid (((Below.refl _ _).alloc (Nat.le_refl _) _).trans (b1.mono (Nat.le_succ _)))
  have z1 := b1.size
  simp at z1
  clear r1 b1
  go_wp2_with fail
  refine (l92Packet_any w.heap.size (w.heap.size + 1) 0 _ R1.out (by omega)).mono ?_
  rintro e w2 ⟨f, k, q, qs, nm, pt, d, ds, p2, rfl, o2, p2', l2, hs, ld, _, _, g2⟩
  obtain ⟨A, c, rfl, _, _, _⟩ := o2.form
  obtain ⟨D, e1, rfl, _, _, _⟩ := p2'.form
  have O2 := Lib.hid o2
  have D2 := Lib.hid p2'
  have K2 := K1.out.grown g2 (by intro h; injection h with h; omega)
  have N1 := Lib.hid (o2.offBlk K2 (by decide))
  have N2 := Lib.hid (p2'.offBlk K2 (by decide))
  have B2 := Lib.hid (below_only B1.out g2 (by omega) (Nat.le_succ _))
  have fr0 := K2.free 0
  have f1 := K2.free 1
  have f2 := K2.free 2
  have f3 := K2.free 3
  have f4 := K2.free 4
  have f5 := K2.free 5
  have c0 : w2.cell? ⟨w.heap.size, 0, none⟩ = some (.int .i64 0) := K2.cell 0
  have c1 : w2.cell? ⟨w.heap.size, 1, none⟩ = some (.int .i64 0) := K2.cell 1
  have c2 : w2.cell? ⟨w.heap.size, 2, none⟩ = some (.slice none 0 0) := K2.cell 2
  have c3 : w2.cell? ⟨w.heap.size, 3, none⟩ = some (.string .empty) := K2.cell 3
  have c4 : w2.cell? ⟨w.heap.size, 4, none⟩ = some (.int .i64 0) := K2.cell 4
  have c5 : w2.cell? ⟨w.heap.size, 5, none⟩ = some (.slice none 0 0) := K2.cell 5
  clear g2 K2 o2 p2'
  go_wp2_with fail
  refine bodyPost_ret (v := .agg #[.int .i64 f, .int .i64 k, .slice A qs.length c, .string nm, .int .i64 pt, .slice D ds.length e1]) (by simp [results, Tryd.results26, go_sem, c0, c1, c2, c3, c4, c5]) rfl ?_
  exact ⟨f, k, _, qs, nm, pt, _, ds, rfl, (O2.out.all6 N1.out).more (by omega), (D2.out.all6 N2.out).more (by omega), l2, hs, ld, (((((B2.out.setCell (p := ⟨w.heap.size, 0, none⟩) (Nat.le_refl _) _).setCell (p := ⟨w.heap.size, 1, none⟩) (Nat.le_refl _) _).setCell (p := ⟨w.heap.size, 2, none⟩) (Nat.le_refl _) _).setCell (p := ⟨w.heap.size, 3, none⟩) (Nat.le_refl _) _).setCell (p := ⟨w.heap.size, 4, none⟩) (Nat.le_refl _) _).setCell (p := ⟨w.heap.size, 5, none⟩) (Nat.le_refl _) _⟩
end Go.Proofs.YtolbkdcnmkmncaaDoor
namespace Go.Proofs.YtolbkdcnmkmncaaDoor
open Go.RowKit

/-- Behind a draw of bytes from a code. -/
def DrewZp (w : World) (e : Ending) (w' : World) : Prop := ∃ v zs, e = .returned v ∧ Ints w' 0 v zs ∧ zs.length ≤ 1000 ∧ Below w.heap.size w w'
theorem pkL_len100 (f k : Int) (qs : List Int) (nm : ByteArray) (p : Int) (ds : List Int) : (pkL f k qs nm p ds).length ≤ 100 := by
  cases h : pkOk f k qs nm p ds
  · rw [pkL_not h]; simp
  · rw [pkL_ok h]
    have := pkB_length h
    omega

set_option maxRecDepth 100000 in
set_option maxHeartbeats 2000000 in
theorem DrawPacketFrom_any (v : Value) (bs : List Int) (w : World) (hv : Came .u8 w w.heap.size v bs) : Calls Tryd.prog 43 #[v] w fun e w' => DrewZp w e w' := by
  go_enter Tryd.func43, Tryd.ntmps43
  go_wp2_with fail
  refine (l6Open_any _ bs w.heap.size _ hv (Nat.le_refl _)).mono ?_
  rintro e w1 ⟨rfl, hr, hb⟩
  have R1 := Lib.hid hr
  have B1 := Lib.hid hb
  have hs1 := hb.size
  have hlt := hr.lt
  clear hr hb
  go_wp2_with fail
  refine (l92Packet_any w.heap.size w.heap.size 0 _ R1.out (by omega)).mono ?_
  rintro e w2 ⟨f, k, q, qs, nm, pt, d, ds, p2, rfl, o2, q2', l2, hm, ld, hp2, hr2, hg2⟩
  obtain ⟨A2, c2, rfl, _, _, _⟩ := o2.form
  obtain ⟨D2, e2, rfl, _, _, _⟩ := q2'.form
  have R2 := Lib.hid hr2
  have I2 := Lib.hid o2.ints.zero
  have J2 := Lib.hid q2'.ints.zero
  have B2 := Lib.hid (below_only B1.out hg2 (by omega) (Nat.le_refl _))
  have hs2 := B2.out.size
  have hns : nm.size < 4294967281 := by omega
  have HL := Lib.hid (pkL_len100 f k qs nm pt ds)
  clear hr2 hg2 o2 q2'
  go_wp2_with fail
  refine (spec_PacketBytes_any f k _ nm pt qs _ ds _ I2.out J2.out hns).mono ?_
  rintro e w3 ⟨v3, rfl, o3, b3⟩
  have R3 := Lib.hid (R2.out.below b3)
  have B3 := Lib.hid (B2.out.trans (b3.mono hs2))
  have O3 := Lib.hid (o3.more hs2)
  clear o3 b3
  obtain ⟨L, hL⟩ : ∃ L, pkL f k qs nm pt ds = L := ⟨_, rfl⟩
  obtain ⟨ok, hok⟩ : ∃ ok, pkOk f k qs nm pt ds = ok := ⟨_, rfl⟩
  rw [hL] at O3 HL
  rw [hok]
  clear hok hL
  go_wp2_with fail
  refine (l91Changed_any w.heap.size w.heap.size w.heap.size p2 100 _ _ _ R3.out (by omega) O3.out HL.out (by omega) (Nat.le_refl _) (Nat.le_refl _)).mono ?_
  rintro e w4 ⟨v4, zs, p4, rfl, o4, hl4, _, _, b4⟩
  have O4 := Lib.hid o4.ints.zero
  have B4 := Lib.hid (B3.out.trans b4)
  clear o4 b4
  go_wp2_with fail
  go_ret
  exact ⟨_, zs, rfl, O4.out, by omega, B4.out⟩
end Go.Proofs.YtolbkdcnmkmncaaDoor

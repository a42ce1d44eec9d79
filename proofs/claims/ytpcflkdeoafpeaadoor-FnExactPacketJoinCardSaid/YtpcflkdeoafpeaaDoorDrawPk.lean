/-
  The drawn packet: its quad and its data in memory of the call's own; the reader has gone on. Conditions: the reader's counter is small.
  The drawn bytes of a packet, changed here and there. Conditions: none.
-/
import Derived.Test.YtpcflkdeoafpeaaDoorDrawAd2
import Derived.Test.YtpcflkdeoafpeaaDoorChanged
import Derived.Test.YtpcflkdeoafpeaaDoorReader
import Derived.Deep.CutRange
import Derived.Test.YtpcflkdeoafpeaaDoorPkBytes
namespace Go.Proofs.YtpcflkdeoafpeaaDoor
open Go.RowKit

theorem Rd6.drew {w : World} {hi g p : Nat} (h : Rd6 w hi g p) : Rd6 w.drew hi g p := h
theorem Blk.drew {w : World} {g : Nat} {t : TypeId} {cs : Array Value} (h : Blk w g t cs) : Blk w.drew g t cs := h
theorem rep_len {j : Nat} (h : j < 2) : (List.replicate (40 + j) (0 : Int)).length ≤ 100 := by simp; omega
theorem far_frozen {W w' : World} {g : Nat} (h : W.grownBy w' (some g)) : ∀ b o, b ≠ g → b < W.heap.size → w'.frozen? ⟨b, o, none⟩ = W.frozen? ⟨b, o, none⟩ := by
  intro b o hb hl
  exact World.grownBy.frozen_far h ⟨b, o, none⟩ hl (by intro e; injection e with e; exact hb e)
theorem lit6_get {y : Int} {j : Nat} (hj : j < 6) (hy : ([0, 1, 2, 129, 130, 127] : List Int).getD j 0 = y) (h : j < ([Value.int .i64 0, .int .i64 1, .int .i64 2, .int .i64 129, .int .i64 130, .int .i64 127] : List Value).length) : ([Value.int .i64 0, .int .i64 1, .int .i64 2, .int .i64 129, .int .i64 130, .int .i64 127] : List Value)[j]'h = .int .i64 y := by
  subst hy
  match j, hj with
  | 0, _ => rfl
  | 1, _ => rfl
  | 2, _ => rfl
  | 3, _ => rfl
  | 4, _ => rfl
  | 5, _ => rfl
theorem Own.all6 {w : World} {base B : Nat} {s a b c e f t : Value} {zs : List Int} (h : Own w base s zs) (hb : s.ownBlock ≠ some B) : Own (((((((w).setCell ⟨B, 0, none⟩ a).setCell ⟨B, 1, none⟩ b).setCell ⟨B, 2, none⟩ c).setCell ⟨B, 3, none⟩ e).setCell ⟨B, 4, none⟩ f).setCell ⟨B, 5, none⟩ t) base s zs :=
  (((((h.farN hb a).farN hb b).farN hb c).farN hb e).farN hb f).farN hb t
theorem Rd6.all6 {w : World} {hi g p B : Nat} {a b c e f t : Value} (h : Rd6 w hi g p) (hp : g ≠ B) (hh : hi ≤ B) : Rd6 (((((((w).setCell ⟨B, 0, none⟩ a).setCell ⟨B, 1, none⟩ b).setCell ⟨B, 2, none⟩ c).setCell ⟨B, 3, none⟩ e).setCell ⟨B, 4, none⟩ f).setCell ⟨B, 5, none⟩ t) hi g p :=
  (((((h.far (a := ⟨B, 0, none⟩) hp hh a).far (a := ⟨B, 1, none⟩) hp hh b).far (a := ⟨B, 2, none⟩) hp hh c).far (a := ⟨B, 3, none⟩) hp hh e).far (a := ⟨B, 4, none⟩) hp hh f).far (a := ⟨B, 5, none⟩) hp hh t
theorem only_all6 {a0 w : World} {g B : Nat} {a b c e f t : Value} (h : a0.grownBy w (some g)) (hB : a0.heap.size ≤ B) : a0.grownBy (((((((w).setCell ⟨B, 0, none⟩ a).setCell ⟨B, 1, none⟩ b).setCell ⟨B, 2, none⟩ c).setCell ⟨B, 3, none⟩ e).setCell ⟨B, 4, none⟩ f).setCell ⟨B, 5, none⟩ t) (some g) :=
  only_setCell (p := ⟨B, 5, none⟩) (only_setCell (p := ⟨B, 4, none⟩) (only_setCell (p := ⟨B, 3, none⟩) (only_setCell (p := ⟨B, 2, none⟩) (only_setCell (p := ⟨B, 1, none⟩) (only_setCell (p := ⟨B, 0, none⟩) h (.inr hB) a) (.inr hB) b) (.inr hB) c) (.inr hB) e) (.inr hB) f) (.inr hB) t
theorem Blk.all6 {w : World} {g : Nat} {ty : TypeId} {a0 b0 c0 e0 f0 t0 : Value} (h : Blk w g ty #[a0, b0, c0, e0, f0, t0]) (a b c e f t : Value) : Blk (((((((w).setCell ⟨g, 0, none⟩ a).setCell ⟨g, 1, none⟩ b).setCell ⟨g, 2, none⟩ c).setCell ⟨g, 3, none⟩ e).setCell ⟨g, 4, none⟩ f).setCell ⟨g, 5, none⟩ t) g ty #[a, b, c, e, f, t] :=
  (((((h.set_ 0 a).set_ 1 b).set_ 2 c).set_ 3 e).set_ 4 f).set_ 5 t
theorem Blk.farAll6 {w : World} {g B : Nat} {ty : TypeId} {cs : Array Value} (h : Blk w g ty cs) (hb : g ≠ B) (a b c e f t : Value) : Blk (((((((w).setCell ⟨B, 0, none⟩ a).setCell ⟨B, 1, none⟩ b).setCell ⟨B, 2, none⟩ c).setCell ⟨B, 3, none⟩ e).setCell ⟨B, 4, none⟩ f).setCell ⟨B, 5, none⟩ t) g ty cs :=
  (((((h.far (p := ⟨B, 0, none⟩) hb a).far (p := ⟨B, 1, none⟩) hb b).far (p := ⟨B, 2, none⟩) hb c).far (p := ⟨B, 3, none⟩) hb e).far (p := ⟨B, 4, none⟩) hb f).far (p := ⟨B, 5, none⟩) hb t
/-- An own row of integers lies in another block than one of another type. -/
theorem Own.offBlk {w : World} {base g : Nat} {v : Value} {zs : List Int} {ty : TypeId} {cs : Array Value} (h : Own w base v zs) (hb : Blk w g ty cs) (hne : 3 ≠ ty) : v.ownBlock ≠ some g := by
  rcases h.2 with ⟨h0, _⟩ | ⟨b, cap, cur, he, _, hh, _⟩
  · subst h0
    simp [Value.ownBlock]
  · subst he
    intro h1
    simp only [Value.ownBlock] at h1
    injection h1 with h1
    subst h1
    rw [Blk] at hb
    rw [hh] at hb
    injection hb with hb
    injection hb with _ h2
    exact hne h2

/-- What holds beside the struct. -/
def PkPre (w : World) (hi g p : Nat) (q : Value) (qs : List Int) (d : Value) (ds : List Int) (W : World) : Prop :=
  Rd6 W hi g p ∧ Own W (w.heap.size + 1) q qs ∧ Own W (w.heap.size + 1) d ds ∧ w.grownBy W (some g) ∧ Blk W w.heap.size 32 #[.int .i64 0, .int .i64 0, .slice none 0 0, .string .empty, .int .i64 0, .slice none 0 0]
theorem PkPre.alloc {w W : World} {hi g p : Nat} {q d : Value} {qs ds : List Int} (h : PkPre w hi g p q qs d ds W) (o : Obj) : PkPre w hi g p q qs d ds (W.alloc o) :=
  ⟨h.1.alloc o, h.2.1.alloc o, h.2.2.1.alloc o, only_alloc h.2.2.2.1 o, h.2.2.2.2.alloc o⟩
/-- The struct is made. -/
def PkDrawn (w : World) (hi g p X : Nat) (y k : Int) (q : Value) (qs : List Int) (nm : ByteArray) (pt : Int) (d : Value) (ds : List Int) (W : World) : Prop :=
  PkPre w hi g p q qs d ds W ∧ w.heap.size + 1 ≤ X ∧ g ≠ X ∧ Blk W X 32 #[.int .i64 y, .int .i64 k, q, .string nm, .int .i64 pt, d]
theorem PkDrawn.alloc {w W : World} {hi g p X : Nat} {y k pt : Int} {q d : Value} {nm : ByteArray} {qs ds : List Int} (h : PkDrawn w hi g p X y k q qs nm pt d ds W) (o : Obj) : PkDrawn w hi g p X y k q qs nm pt d ds (W.alloc o) :=
  ⟨h.1.alloc o, h.2.1, h.2.2.1, h.2.2.2.alloc o⟩
theorem PkDrawn.grown {w W W' : World} {hi g p p' X : Nat} {y k pt : Int} {q d : Value} {nm : ByteArray} {qs ds : List Int} (h : PkDrawn w hi g p X y k q qs nm pt d ds W) (hr : Rd6 W' hi g p') (hg : W.grownBy W' (some g)) (hw : g ≠ w.heap.size) : PkDrawn w hi g p' X y k q qs nm pt d ds W' := by
  obtain ⟨⟨h1, h2, h3, h4, h5⟩, h6, h7, h8⟩ := h
  exact ⟨⟨hr, h1.own h2 hg, h1.own h3 hg, only_trans h4 hg, h5.grown hg (by intro e; injection e with e; exact hw e.symm)⟩, h6, h7, h8.grown hg (by intro e; injection e with e; exact h7 e.symm)⟩
theorem PkDrawn.new {w W : World} {hi g p X : Nat} {y k pt : Int} {q d : Value} {nm : ByteArray} {qs ds : List Int} (h : PkPre w hi g p q qs d ds W) (hX : X = W.heap.size) : PkDrawn w hi g p X y k q qs nm pt d ds (W.alloc (.cells #[.int .i64 y, .int .i64 k, q, .string nm, .int .i64 pt, d] 32)) := by
  have h1 := h.1.lt
  have h2 := h.2.2.2.2.lt
  subst hX
  exact ⟨h.alloc _, by omega, by omega, Blk.new _ _ _⟩
theorem PkDrawn.six {w W : World} {hi g p X : Nat} {y k pt : Int} {q d : Value} {nm : ByteArray} {qs ds : List Int} {a0 b0 c0 e0 f0 t0 : Value} (h : PkPre w hi g p q qs d ds W) (hb : Blk W X 32 #[a0, b0, c0, e0, f0, t0]) (hX : w.heap.size + 1 ≤ X) (hg : g ≠ X) (hh : hi ≤ w.heap.size) :
    PkDrawn w hi g p X y k q qs nm pt d ds ((((((W.setCell ⟨X, 0, none⟩ (.int .i64 y)).setCell ⟨X, 1, none⟩ (.int .i64 k)).setCell ⟨X, 2, none⟩ q).setCell ⟨X, 3, none⟩ (.string nm)).setCell ⟨X, 4, none⟩ (.int .i64 pt)).setCell ⟨X, 5, none⟩ d) :=
  ⟨⟨h.1.all6 hg (by omega), h.2.1.all6 (h.2.1.offBlk hb (by decide)), h.2.2.1.all6 (h.2.2.1.offBlk hb (by decide)), only_all6 h.2.2.2.1 (by omega), h.2.2.2.2.farAll6 (by omega) _ _ _ _ _ _⟩, hX, hg, hb.all6 _ _ _ _ _ _⟩
theorem PkDrawn.set0 {w W : World} {hi g p X : Nat} {y k pt : Int} {q d : Value} {nm : ByteArray} {qs ds : List Int} (h : PkDrawn w hi g p X y k q qs nm pt d ds W) (hh : hi ≤ w.heap.size) (y' : Int) : PkDrawn w hi g p X y' k q qs nm pt d ds (W.setCell ⟨X, 0, none⟩ (.int .i64 y')) := by
  obtain ⟨⟨h1, h2, h3, h4, h5⟩, h6, h7, h8⟩ := h
  exact ⟨⟨h1.far (a := ⟨X, 0, none⟩) h7 (show hi ≤ X by omega) _, h2.farN (h2.offBlk h8 (by decide)) _, h3.farN (h3.offBlk h8 (by decide)) _, only_setCell (p := ⟨X, 0, none⟩) h4 (.inr (show w.heap.size ≤ X by omega)) _, h5.far (p := ⟨X, 0, none⟩) (show w.heap.size ≠ X by omega) _⟩, h6, h7, h8.set_ 0 _⟩
theorem PkDrawn.set5 {w W : World} {hi g p X : Nat} {y k pt : Int} {q d d' : Value} {nm : ByteArray} {qs ds ds' : List Int} (h : PkDrawn w hi g p X y k q qs nm pt d ds W) (hd : Own W (w.heap.size + 1) d' ds') (hh : hi ≤ w.heap.size) : PkDrawn w hi g p X y k q qs nm pt d' ds' (W.setCell ⟨X, 5, none⟩ d') := by
  obtain ⟨⟨h1, h2, h3, h4, h5⟩, h6, h7, h8⟩ := h
  exact ⟨⟨h1.far (a := ⟨X, 5, none⟩) h7 (show hi ≤ X by omega) _, h2.farN (h2.offBlk h8 (by decide)) _, hd.farN (hd.offBlk h8 (by decide)) _, only_setCell (p := ⟨X, 5, none⟩) h4 (.inr (show w.heap.size ≤ X by omega)) _, h5.far (p := ⟨X, 5, none⟩) (show w.heap.size ≠ X by omega) _⟩, h6, h7, h8.set_ 5 _⟩

/-- A walk over all orders of a region by its states: what is proved of a state may lean on all states with less left. -/
theorem wpAny_memo {P : Program} {md : Region.Mode} {ops : Array Oper} {Q : Exit → Act → World → Prop} (I : Nat → Array Bool → Act → World → Prop)
    (h : ∀ n listed a w, (∀ m, m < n → ∀ l a w, I m l a w → wpAny P md ops Q m l a w) → I n listed a w → wpAny P md ops Q n listed a w) :
    ∀ n listed a w, I n listed a w → wpAny P md ops Q n listed a w := by
  intro n
  induction n using Nat.strongRecOn with
  | ind n ih => exact fun listed a w hI => h n listed a w (fun m hm l a w hI => ih m hm l a w hI) hI
/-- What holds in the midst of the region. -/
def PkSt (w : World) (hi g p : Nat) (l x a b : Bool) (Lb X : Nat) (q d : Value) (qs ds : List Int) (W : World) : Prop :=
  Rd6 W hi g p ∧ w.grownBy W (some g) ∧ Blk W w.heap.size 32 #[.int .i64 0, .int .i64 0, .slice none 0 0, .string .empty, .int .i64 0, .slice none 0 0] ∧ (l = true → Blk W Lb 3 #[.int .i64 0, .int .i64 1, .int .i64 2, .int .i64 129, .int .i64 130, .int .i64 127] ∧ g ≠ Lb) ∧ (x = true → Blk W X 32 #[.int .i64 0, .int .i64 0, .slice none 0 0, .string ⟨#[]⟩, .int .i64 0, .slice none 0 0] ∧ g ≠ X ∧ w.heap.size + 1 ≤ X) ∧ (a = true → Own W (w.heap.size + 1) q qs) ∧ (b = true → Own W (w.heap.size + 1) d ds)
theorem PkSt.base {w W : World} {hi g p Lb X : Nat} {l x a b : Bool} {q d : Value} {qs ds : List Int} (h : PkSt w hi g p l x a b Lb X q d qs ds W) : w.heap.size + 1 ≤ W.heap.size := h.2.2.1.lt
theorem PkSt.newL {w W : World} {hi g p Lb X : Nat} {x a b : Bool} {q d : Value} {qs ds : List Int} (h : PkSt w hi g p false x a b Lb X q d qs ds W) : PkSt w hi g p true x a b W.heap.size X q d qs ds (W.alloc (.cells #[.int .i64 0, .int .i64 1, .int .i64 2, .int .i64 129, .int .i64 130, .int .i64 127] 3)) := by
  obtain ⟨h1, h2, h3, _, h5, h6, h7⟩ := h
  have := h1.lt
  exact ⟨h1.alloc _, only_alloc h2 _, h3.alloc _, fun _ => ⟨Blk.new _ _ _, by omega⟩, fun e => ⟨(h5 e).1.alloc _, (h5 e).2⟩, fun e => (h6 e).alloc _, fun e => (h7 e).alloc _⟩
theorem PkSt.newX {w W : World} {hi g p Lb X : Nat} {l a b : Bool} {q d : Value} {qs ds : List Int} (h : PkSt w hi g p l false a b Lb X q d qs ds W) : PkSt w hi g p l true a b Lb W.heap.size q d qs ds (W.alloc (.cells #[.int .i64 0, .int .i64 0, .slice none 0 0, .string ⟨#[]⟩, .int .i64 0, .slice none 0 0] 32)) := by
  have hb := h.base
  obtain ⟨h1, h2, h3, h4, _, h6, h7⟩ := h
  have := h1.lt
  exact ⟨h1.alloc _, only_alloc h2 _, h3.alloc _, fun e => ⟨(h4 e).1.alloc _, (h4 e).2⟩, fun _ => ⟨Blk.new _ _ _, by omega, hb⟩, fun e => (h6 e).alloc _, fun e => (h7 e).alloc _⟩
theorem PkSt.call {w W W' : World} {hi g p p' Lb X : Nat} {l x a b : Bool} {q d : Value} {qs ds : List Int} (h : PkSt w hi g p l x a b Lb X q d qs ds W) (hr : Rd6 W' hi g p') (hg : W.grownBy W' (some g)) (hw : g ≠ w.heap.size) : PkSt w hi g p' l x a b Lb X q d qs ds W' := by
  obtain ⟨h1, h2, h3, h4, h5, h6, h7⟩ := h
  exact ⟨hr, only_trans h2 hg, h3.grown hg (by intro e; injection e with e; exact hw e.symm), fun e => ⟨(h4 e).1.grown hg (by intro e'; injection e' with e'; exact (h4 e).2 e'.symm), (h4 e).2⟩, fun e => ⟨(h5 e).1.grown hg (by intro e'; injection e' with e'; exact (h5 e).2.1 e'.symm), (h5 e).2⟩, fun e => h1.own (h6 e) hg, fun e => h1.own (h7 e) hg⟩
theorem PkSt.setA {w W : World} {hi g p Lb X : Nat} {l x b : Bool} {q q' d : Value} {qs qs' ds : List Int} (h : PkSt w hi g p l x false b Lb X q d qs ds W) (ho : Own W (w.heap.size + 1) q' qs') : PkSt w hi g p l x true b Lb X q' d qs' ds W :=
  ⟨h.1, h.2.1, h.2.2.1, h.2.2.2.1, h.2.2.2.2.1, fun _ => ho, h.2.2.2.2.2.2⟩
theorem PkSt.setB {w W : World} {hi g p Lb X : Nat} {l x a : Bool} {q d d' : Value} {qs ds ds' : List Int} (h : PkSt w hi g p l x a false Lb X q d qs ds W) (ho : Own W (w.heap.size + 1) d' ds') : PkSt w hi g p l x a true Lb X q d' qs ds' W :=
  ⟨h.1, h.2.1, h.2.2.1, h.2.2.2.1, h.2.2.2.2.1, h.2.2.2.2.2.1, fun _ => ho⟩
theorem PkSt.lit {w W : World} {hi g p Lb X j : Nat} {y : Int} {x a b : Bool} {q d : Value} {qs ds : List Int} (h : PkSt w hi g p true x a b Lb X q d qs ds W) (hj : j < 6) (hy : ([0, 1, 2, 129, 130, 127] : List Int).getD j 0 = y) : W.cell? ⟨Lb, j, none⟩ = some (.int .i64 y) := by
  rw [(h.2.2.2.1 rfl).1.cell j]
  subst hy
  match j, hj with
  | 0, _ => rfl
  | 1, _ => rfl
  | 2, _ => rfl
  | 3, _ => rfl
  | 4, _ => rfl
  | 5, _ => rfl
theorem PkSt.fin {w W : World} {hi g p Lb X : Nat} {l : Bool} {y k pt : Int} {nm : ByteArray} {q d : Value} {qs ds : List Int} (h : PkSt w hi g p l true true true Lb X q d qs ds W) (hh : hi ≤ w.heap.size) :
    PkDrawn w hi g p X y k q qs nm pt d ds ((((((W.setCell ⟨X, 0, none⟩ (.int .i64 y)).setCell ⟨X, 1, none⟩ (.int .i64 k)).setCell ⟨X, 2, none⟩ q).setCell ⟨X, 3, none⟩ (.string nm)).setCell ⟨X, 4, none⟩ (.int .i64 pt)).setCell ⟨X, 5, none⟩ d) := by
  obtain ⟨h1, h2, h3, _, h5, h6, h7⟩ := h
  exact PkDrawn.six ⟨h1, h6 rfl, h7 rfl, h2, h3⟩ (h5 rfl).1 (h5 rfl).2.2 (h5 rfl).2.1 hh
/-- What has come up, and what holds then. -/
def PkInv (w : World) (hi g p : Nat) (n : Nat) (listed : Array Bool) (a : Act) (W : World) : Prop :=
  ∃ (Lb X j : Nat) (y k : Int) (A : Option Addr) (c : Nat) (qs : List Int) (nm : ByteArray) (pt : Int) (D : Option Addr) (e1 : Nat) (ds : List Int) (p1 : Nat),
    (n = 9 ∧ listed = #[false, true, false, false, false, true, false, true, false, false, false, false] ∧ a = { tmps := #[.pointer (some ⟨g, 0, none⟩), undef, .pointer (some ⟨w.heap.size, 0, none⟩), undef, undef, .pointer (some ⟨g, 0, none⟩), undef, undef, undef, .pointer (some ⟨g, 0, none⟩), undef, .pointer (some ⟨g, 0, none⟩), undef, undef, undef, undef, undef, undef, undef, undef, undef, undef, undef, undef, undef, undef, undef, undef, undef, undef, undef, undef], defers := [] } ∧ PkSt w hi g p1 false false false false Lb X (.slice A qs.length c) (.slice D ds.length e1) qs ds W ∧ p1 ≤ p + 0) ∨
    (n = 8 ∧ listed = #[false, true, false, false, false, true, false, true, false, false, true, false] ∧ a = { tmps := #[.pointer (some ⟨g, 0, none⟩), undef, .pointer (some ⟨w.heap.size, 0, none⟩), .pointer (some ⟨X, 0, none⟩), undef, .pointer (some ⟨g, 0, none⟩), undef, undef, undef, .pointer (some ⟨g, 0, none⟩), undef, .pointer (some ⟨g, 0, none⟩), undef, undef, undef, undef, undef, undef, undef, undef, undef, undef, undef, undef, undef, undef, undef, undef, undef, undef, undef, undef], defers := [] } ∧ PkSt w hi g p1 false true false false Lb X (.slice A qs.length c) (.slice D ds.length e1) qs ds W ∧ p1 ≤ p + 0) ∨
    (n = 8 ∧ listed = #[true, true, false, false, false, true, false, true, false, false, false, false] ∧ a = { tmps := #[.pointer (some ⟨g, 0, none⟩), undef, .pointer (some ⟨w.heap.size, 0, none⟩), undef, .slice (some ⟨Lb, 0, none⟩) 6 6, .pointer (some ⟨g, 0, none⟩), undef, undef, undef, .pointer (some ⟨g, 0, none⟩), undef, .pointer (some ⟨g, 0, none⟩), undef, undef, undef, undef, undef, undef, undef, undef, undef, undef, undef, undef, undef, undef, undef, undef, undef, undef, undef, undef], defers := [] } ∧ PkSt w hi g p1 true false false false Lb X (.slice A qs.length c) (.slice D ds.length e1) qs ds W ∧ p1 ≤ p + 0) ∨
    (n = 7 ∧ listed = #[true, true, false, false, false, true, false, true, false, false, true, false] ∧ a = { tmps := #[.pointer (some ⟨g, 0, none⟩), undef, .pointer (some ⟨w.heap.size, 0, none⟩), .pointer (some ⟨X, 0, none⟩), .slice (some ⟨Lb, 0, none⟩) 6 6, .pointer (some ⟨g, 0, none⟩), undef, undef, undef, .pointer (some ⟨g, 0, none⟩), undef, .pointer (some ⟨g, 0, none⟩), undef, undef, undef, undef, undef, undef, undef, undef, undef, undef, undef, undef, undef, undef, undef, undef, undef, undef, undef, undef], defers := [] } ∧ PkSt w hi g p1 true true false false Lb X (.slice A qs.length c) (.slice D ds.length e1) qs ds W ∧ p1 ≤ p + 0) ∨
    (n = 8 ∧ listed = #[false, true, true, false, false, true, false, true, false, false, false, false] ∧ a = { tmps := #[.pointer (some ⟨g, 0, none⟩), undef, .pointer (some ⟨w.heap.size, 0, none⟩), undef, undef, .pointer (some ⟨g, 0, none⟩), .int .i64 (j : Int), undef, undef, .pointer (some ⟨g, 0, none⟩), undef, .pointer (some ⟨g, 0, none⟩), undef, undef, undef, undef, undef, undef, undef, undef, undef, undef, undef, undef, undef, undef, undef, undef, undef, undef, undef, undef], defers := [] } ∧ PkSt w hi g p1 false false false false Lb X (.slice A qs.length c) (.slice D ds.length e1) qs ds W ∧ p1 ≤ p + 1 ∧ j < 6 ∧ ([0, 1, 2, 129, 130, 127] : List Int).getD j 0 = y) ∨
    (n = 7 ∧ listed = #[false, true, true, false, false, true, false, true, false, false, true, false] ∧ a = { tmps := #[.pointer (some ⟨g, 0, none⟩), undef, .pointer (some ⟨w.heap.size, 0, none⟩), .pointer (some ⟨X, 0, none⟩), undef, .pointer (some ⟨g, 0, none⟩), .int .i64 (j : Int), undef, undef, .pointer (some ⟨g, 0, none⟩), undef, .pointer (some ⟨g, 0, none⟩), undef, undef, undef, undef, undef, undef, undef, undef, undef, undef, undef, undef, undef, undef, undef, undef, undef, undef, undef, undef], defers := [] } ∧ PkSt w hi g p1 false true false false Lb X (.slice A qs.length c) (.slice D ds.length e1) qs ds W ∧ p1 ≤ p + 1 ∧ j < 6 ∧ ([0, 1, 2, 129, 130, 127] : List Int).getD j 0 = y) ∨
    (n = 6 ∧ listed = #[true, true, true, true, false, true, false, true, false, false, false, false] ∧ a = { tmps := #[.pointer (some ⟨g, 0, none⟩), undef, .pointer (some ⟨w.heap.size, 0, none⟩), undef, .slice (some ⟨Lb, 0, none⟩) 6 6, .pointer (some ⟨g, 0, none⟩), .int .i64 (j : Int), .pointer (some ⟨Lb, j, none⟩), undef, .pointer (some ⟨g, 0, none⟩), undef, .pointer (some ⟨g, 0, none⟩), undef, undef, undef, undef, undef, undef, undef, undef, undef, undef, undef, undef, undef, undef, undef, undef, undef, undef, undef, undef], defers := [] } ∧ PkSt w hi g p1 true false false false Lb X (.slice A qs.length c) (.slice D ds.length e1) qs ds W ∧ p1 ≤ p + 1 ∧ j < 6 ∧ ([0, 1, 2, 129, 130, 127] : List Int).getD j 0 = y) ∨
    (n = 5 ∧ listed = #[true, true, true, true, false, true, false, true, false, false, true, false] ∧ a = { tmps := #[.pointer (some ⟨g, 0, none⟩), undef, .pointer (some ⟨w.heap.size, 0, none⟩), .pointer (some ⟨X, 0, none⟩), .slice (some ⟨Lb, 0, none⟩) 6 6, .pointer (some ⟨g, 0, none⟩), .int .i64 (j : Int), .pointer (some ⟨Lb, j, none⟩), undef, .pointer (some ⟨g, 0, none⟩), undef, .pointer (some ⟨g, 0, none⟩), undef, undef, undef, undef, undef, undef, undef, undef, undef, undef, undef, undef, undef, undef, undef, undef, undef, undef, undef, undef], defers := [] } ∧ PkSt w hi g p1 true true false false Lb X (.slice A qs.length c) (.slice D ds.length e1) qs ds W ∧ p1 ≤ p + 1 ∧ j < 6 ∧ ([0, 1, 2, 129, 130, 127] : List Int).getD j 0 = y) ∨
    (n = 5 ∧ listed = #[true, true, true, true, true, true, false, true, false, false, false, false] ∧ a = { tmps := #[.pointer (some ⟨g, 0, none⟩), undef, .pointer (some ⟨w.heap.size, 0, none⟩), undef, .slice (some ⟨Lb, 0, none⟩) 6 6, .pointer (some ⟨g, 0, none⟩), .int .i64 (j : Int), .pointer (some ⟨Lb, j, none⟩), .int .i64 y, .pointer (some ⟨g, 0, none⟩), undef, .pointer (some ⟨g, 0, none⟩), undef, undef, undef, undef, undef, undef, undef, undef, undef, undef, undef, undef, undef, undef, undef, undef, undef, undef, undef, undef], defers := [] } ∧ PkSt w hi g p1 true false false false Lb X (.slice A qs.length c) (.slice D ds.length e1) qs ds W ∧ p1 ≤ p + 1 ∧ j < 6 ∧ ([0, 1, 2, 129, 130, 127] : List Int).getD j 0 = y) ∨
    (n = 4 ∧ listed = #[true, true, true, true, true, true, false, true, false, false, true, false] ∧ a = { tmps := #[.pointer (some ⟨g, 0, none⟩), undef, .pointer (some ⟨w.heap.size, 0, none⟩), .pointer (some ⟨X, 0, none⟩), .slice (some ⟨Lb, 0, none⟩) 6 6, .pointer (some ⟨g, 0, none⟩), .int .i64 (j : Int), .pointer (some ⟨Lb, j, none⟩), .int .i64 y, .pointer (some ⟨g, 0, none⟩), undef, .pointer (some ⟨g, 0, none⟩), undef, undef, undef, undef, undef, undef, undef, undef, undef, undef, undef, undef, undef, undef, undef, undef, undef, undef, undef, undef], defers := [] } ∧ PkSt w hi g p1 true true false false Lb X (.slice A qs.length c) (.slice D ds.length e1) qs ds W ∧ p1 ≤ p + 1 ∧ j < 6 ∧ ([0, 1, 2, 129, 130, 127] : List Int).getD j 0 = y) ∨
    (n = 7 ∧ listed = #[false, true, true, false, false, true, true, true, false, false, false, false] ∧ a = { tmps := #[.pointer (some ⟨g, 0, none⟩), undef, .pointer (some ⟨w.heap.size, 0, none⟩), undef, undef, .pointer (some ⟨g, 0, none⟩), .int .i64 (j : Int), undef, undef, .pointer (some ⟨g, 0, none⟩), .agg #[.int .i64 k, .slice A qs.length c, .string nm, .int .i64 pt], .pointer (some ⟨g, 0, none⟩), undef, undef, undef, undef, undef, undef, undef, undef, undef, undef, undef, undef, undef, undef, undef, undef, undef, undef, undef, undef], defers := [] } ∧ PkSt w hi g p1 false false true false Lb X (.slice A qs.length c) (.slice D ds.length e1) qs ds W ∧ p1 ≤ p + 21 ∧ j < 6 ∧ ([0, 1, 2, 129, 130, 127] : List Int).getD j 0 = y ∧ qs.length ≤ 4 ∧ nm.size ≤ 21) ∨
    (n = 6 ∧ listed = #[false, true, true, false, false, true, true, true, false, false, true, false] ∧ a = { tmps := #[.pointer (some ⟨g, 0, none⟩), undef, .pointer (some ⟨w.heap.size, 0, none⟩), .pointer (some ⟨X, 0, none⟩), undef, .pointer (some ⟨g, 0, none⟩), .int .i64 (j : Int), undef, undef, .pointer (some ⟨g, 0, none⟩), .agg #[.int .i64 k, .slice A qs.length c, .string nm, .int .i64 pt], .pointer (some ⟨g, 0, none⟩), undef, undef, undef, undef, undef, undef, undef, undef, undef, undef, undef, undef, undef, undef, undef, undef, undef, undef, undef, undef], defers := [] } ∧ PkSt w hi g p1 false true true false Lb X (.slice A qs.length c) (.slice D ds.length e1) qs ds W ∧ p1 ≤ p + 21 ∧ j < 6 ∧ ([0, 1, 2, 129, 130, 127] : List Int).getD j 0 = y ∧ qs.length ≤ 4 ∧ nm.size ≤ 21) ∨
    (n = 5 ∧ listed = #[true, true, true, true, false, true, true, true, false, false, false, false] ∧ a = { tmps := #[.pointer (some ⟨g, 0, none⟩), undef, .pointer (some ⟨w.heap.size, 0, none⟩), undef, .slice (some ⟨Lb, 0, none⟩) 6 6, .pointer (some ⟨g, 0, none⟩), .int .i64 (j : Int), .pointer (some ⟨Lb, j, none⟩), undef, .pointer (some ⟨g, 0, none⟩), .agg #[.int .i64 k, .slice A qs.length c, .string nm, .int .i64 pt], .pointer (some ⟨g, 0, none⟩), undef, undef, undef, undef, undef, undef, undef, undef, undef, undef, undef, undef, undef, undef, undef, undef, undef, undef, undef, undef], defers := [] } ∧ PkSt w hi g p1 true false true false Lb X (.slice A qs.length c) (.slice D ds.length e1) qs ds W ∧ p1 ≤ p + 21 ∧ j < 6 ∧ ([0, 1, 2, 129, 130, 127] : List Int).getD j 0 = y ∧ qs.length ≤ 4 ∧ nm.size ≤ 21) ∨
    (n = 4 ∧ listed = #[true, true, true, true, false, true, true, true, false, false, true, false] ∧ a = { tmps := #[.pointer (some ⟨g, 0, none⟩), undef, .pointer (some ⟨w.heap.size, 0, none⟩), .pointer (some ⟨X, 0, none⟩), .slice (some ⟨Lb, 0, none⟩) 6 6, .pointer (some ⟨g, 0, none⟩), .int .i64 (j : Int), .pointer (some ⟨Lb, j, none⟩), undef, .pointer (some ⟨g, 0, none⟩), .agg #[.int .i64 k, .slice A qs.length c, .string nm, .int .i64 pt], .pointer (some ⟨g, 0, none⟩), undef, undef, undef, undef, undef, undef, undef, undef, undef, undef, undef, undef, undef, undef, undef, undef, undef, undef, undef, undef], defers := [] } ∧ PkSt w hi g p1 true true true false Lb X (.slice A qs.length c) (.slice D ds.length e1) qs ds W ∧ p1 ≤ p + 21 ∧ j < 6 ∧ ([0, 1, 2, 129, 130, 127] : List Int).getD j 0 = y ∧ qs.length ≤ 4 ∧ nm.size ≤ 21) ∨
    (n = 4 ∧ listed = #[true, true, true, true, true, true, true, true, false, false, false, false] ∧ a = { tmps := #[.pointer (some ⟨g, 0, none⟩), undef, .pointer (some ⟨w.heap.size, 0, none⟩), undef, .slice (some ⟨Lb, 0, none⟩) 6 6, .pointer (some ⟨g, 0, none⟩), .int .i64 (j : Int), .pointer (some ⟨Lb, j, none⟩), .int .i64 y, .pointer (some ⟨g, 0, none⟩), .agg #[.int .i64 k, .slice A qs.length c, .string nm, .int .i64 pt], .pointer (some ⟨g, 0, none⟩), undef, undef, undef, undef, undef, undef, undef, undef, undef, undef, undef, undef, undef, undef, undef, undef, undef, undef, undef, undef], defers := [] } ∧ PkSt w hi g p1 true false true false Lb X (.slice A qs.length c) (.slice D ds.length e1) qs ds W ∧ p1 ≤ p + 21 ∧ j < 6 ∧ ([0, 1, 2, 129, 130, 127] : List Int).getD j 0 = y ∧ qs.length ≤ 4 ∧ nm.size ≤ 21) ∨
    (n = 3 ∧ listed = #[true, true, true, true, true, true, true, true, false, false, true, false] ∧ a = { tmps := #[.pointer (some ⟨g, 0, none⟩), undef, .pointer (some ⟨w.heap.size, 0, none⟩), .pointer (some ⟨X, 0, none⟩), .slice (some ⟨Lb, 0, none⟩) 6 6, .pointer (some ⟨g, 0, none⟩), .int .i64 (j : Int), .pointer (some ⟨Lb, j, none⟩), .int .i64 y, .pointer (some ⟨g, 0, none⟩), .agg #[.int .i64 k, .slice A qs.length c, .string nm, .int .i64 pt], .pointer (some ⟨g, 0, none⟩), undef, undef, undef, undef, undef, undef, undef, undef, undef, undef, undef, undef, undef, undef, undef, undef, undef, undef, undef, undef], defers := [] } ∧ PkSt w hi g p1 true true true false Lb X (.slice A qs.length c) (.slice D ds.length e1) qs ds W ∧ p1 ≤ p + 21 ∧ j < 6 ∧ ([0, 1, 2, 129, 130, 127] : List Int).getD j 0 = y ∧ qs.length ≤ 4 ∧ nm.size ≤ 21) ∨
    (n = 6 ∧ listed = #[false, true, true, false, false, true, true, true, true, false, false, false] ∧ a = { tmps := #[.pointer (some ⟨g, 0, none⟩), undef, .pointer (some ⟨w.heap.size, 0, none⟩), undef, undef, .pointer (some ⟨g, 0, none⟩), .int .i64 (j : Int), undef, undef, .pointer (some ⟨g, 0, none⟩), .agg #[.int .i64 k, .slice A qs.length c, .string nm, .int .i64 pt], .pointer (some ⟨g, 0, none⟩), .slice D ds.length e1, undef, undef, undef, undef, undef, undef, undef, undef, undef, undef, undef, undef, undef, undef, undef, undef, undef, undef, undef], defers := [] } ∧ PkSt w hi g p1 false false true true Lb X (.slice A qs.length c) (.slice D ds.length e1) qs ds W ∧ p1 ≤ p + 421 ∧ j < 6 ∧ ([0, 1, 2, 129, 130, 127] : List Int).getD j 0 = y ∧ qs.length ≤ 4 ∧ nm.size ≤ 21 ∧ ds.length ≤ 8) ∨
    (n = 5 ∧ listed = #[false, true, true, false, false, true, true, true, true, false, true, false] ∧ a = { tmps := #[.pointer (some ⟨g, 0, none⟩), undef, .pointer (some ⟨w.heap.size, 0, none⟩), .pointer (some ⟨X, 0, none⟩), undef, .pointer (some ⟨g, 0, none⟩), .int .i64 (j : Int), undef, undef, .pointer (some ⟨g, 0, none⟩), .agg #[.int .i64 k, .slice A qs.length c, .string nm, .int .i64 pt], .pointer (some ⟨g, 0, none⟩), .slice D ds.length e1, undef, undef, undef, undef, undef, undef, undef, undef, undef, undef, undef, undef, undef, undef, undef, undef, undef, undef, undef], defers := [] } ∧ PkSt w hi g p1 false true true true Lb X (.slice A qs.length c) (.slice D ds.length e1) qs ds W ∧ p1 ≤ p + 421 ∧ j < 6 ∧ ([0, 1, 2, 129, 130, 127] : List Int).getD j 0 = y ∧ qs.length ≤ 4 ∧ nm.size ≤ 21 ∧ ds.length ≤ 8) ∨
    (n = 4 ∧ listed = #[true, true, true, true, false, true, true, true, true, false, false, false] ∧ a = { tmps := #[.pointer (some ⟨g, 0, none⟩), undef, .pointer (some ⟨w.heap.size, 0, none⟩), undef, .slice (some ⟨Lb, 0, none⟩) 6 6, .pointer (some ⟨g, 0, none⟩), .int .i64 (j : Int), .pointer (some ⟨Lb, j, none⟩), undef, .pointer (some ⟨g, 0, none⟩), .agg #[.int .i64 k, .slice A qs.length c, .string nm, .int .i64 pt], .pointer (some ⟨g, 0, none⟩), .slice D ds.length e1, undef, undef, undef, undef, undef, undef, undef, undef, undef, undef, undef, undef, undef, undef, undef, undef, undef, undef, undef], defers := [] } ∧ PkSt w hi g p1 true false true true Lb X (.slice A qs.length c) (.slice D ds.length e1) qs ds W ∧ p1 ≤ p + 421 ∧ j < 6 ∧ ([0, 1, 2, 129, 130, 127] : List Int).getD j 0 = y ∧ qs.length ≤ 4 ∧ nm.size ≤ 21 ∧ ds.length ≤ 8) ∨
    (n = 3 ∧ listed = #[true, true, true, true, false, true, true, true, true, false, true, false] ∧ a = { tmps := #[.pointer (some ⟨g, 0, none⟩), undef, .pointer (some ⟨w.heap.size, 0, none⟩), .pointer (some ⟨X, 0, none⟩), .slice (some ⟨Lb, 0, none⟩) 6 6, .pointer (some ⟨g, 0, none⟩), .int .i64 (j : Int), .pointer (some ⟨Lb, j, none⟩), undef, .pointer (some ⟨g, 0, none⟩), .agg #[.int .i64 k, .slice A qs.length c, .string nm, .int .i64 pt], .pointer (some ⟨g, 0, none⟩), .slice D ds.length e1, undef, undef, undef, undef, undef, undef, undef, undef, undef, undef, undef, undef, undef, undef, undef, undef, undef, undef, undef], defers := [] } ∧ PkSt w hi g p1 true true true true Lb X (.slice A qs.length c) (.slice D ds.length e1) qs ds W ∧ p1 ≤ p + 421 ∧ j < 6 ∧ ([0, 1, 2, 129, 130, 127] : List Int).getD j 0 = y ∧ qs.length ≤ 4 ∧ nm.size ≤ 21 ∧ ds.length ≤ 8) ∨
    (n = 2 ∧ listed = #[true, true, true, true, true, true, true, true, true, true, false, false] ∧ a = { tmps := #[.pointer (some ⟨g, 0, none⟩), undef, .pointer (some ⟨w.heap.size, 0, none⟩), undef, .slice (some ⟨Lb, 0, none⟩) 6 6, .pointer (some ⟨g, 0, none⟩), .int .i64 (j : Int), .pointer (some ⟨Lb, j, none⟩), .int .i64 y, .pointer (some ⟨g, 0, none⟩), .agg #[.int .i64 k, .slice A qs.length c, .string nm, .int .i64 pt], .pointer (some ⟨g, 0, none⟩), .slice D ds.length e1, .agg #[.int .i64 y, .int .i64 k, .slice A qs.length c, .string nm, .int .i64 pt, .slice D ds.length e1], undef, undef, undef, undef, undef, undef, undef, undef, undef, undef, undef, undef, undef, undef, undef, undef, undef, undef], defers := [] } ∧ PkSt w hi g p1 true false true true Lb X (.slice A qs.length c) (.slice D ds.length e1) qs ds W ∧ p1 ≤ p + 421 ∧ j < 6 ∧ ([0, 1, 2, 129, 130, 127] : List Int).getD j 0 = y ∧ qs.length ≤ 4 ∧ nm.size ≤ 21 ∧ ds.length ≤ 8) ∨
    (n = 1 ∧ listed = #[true, true, true, true, true, true, true, true, true, true, true, false] ∧ a = { tmps := #[.pointer (some ⟨g, 0, none⟩), undef, .pointer (some ⟨w.heap.size, 0, none⟩), .pointer (some ⟨X, 0, none⟩), .slice (some ⟨Lb, 0, none⟩) 6 6, .pointer (some ⟨g, 0, none⟩), .int .i64 (j : Int), .pointer (some ⟨Lb, j, none⟩), .int .i64 y, .pointer (some ⟨g, 0, none⟩), .agg #[.int .i64 k, .slice A qs.length c, .string nm, .int .i64 pt], .pointer (some ⟨g, 0, none⟩), .slice D ds.length e1, .agg #[.int .i64 y, .int .i64 k, .slice A qs.length c, .string nm, .int .i64 pt, .slice D ds.length e1], undef, undef, undef, undef, undef, undef, undef, undef, undef, undef, undef, undef, undef, undef, undef, undef, undef, undef], defers := [] } ∧ PkSt w hi g p1 true true true true Lb X (.slice A qs.length c) (.slice D ds.length e1) qs ds W ∧ p1 ≤ p + 421 ∧ j < 6 ∧ ([0, 1, 2, 129, 130, 127] : List Int).getD j 0 = y ∧ qs.length ≤ 4 ∧ nm.size ≤ 21 ∧ ds.length ≤ 8)

/-- Behind a draw of a packet. -/
def DrewPk (w : World) (hi g p : Nat) (e : Ending) (w' : World) : Prop :=
  ∃ f k q qs nm pt d ds p', e = .returned (.agg #[.int .i64 f, .int .i64 k, q, .string nm, .int .i64 pt, d]) ∧ Own w' w.heap.size q qs ∧ Own w' w.heap.size d ds ∧ qs.length ≤ 4 ∧ nm.size ≤ 21 ∧ ds.length ≤ 100 ∧ p' ≤ p + 500 ∧ Rd6 w' hi g p' ∧ w.grownBy w' (some g)
theorem PkDrawn.end_ {w W : World} {hi g p p0 X : Nat} {y k pt : Int} {q d : Value} {nm : ByteArray} {qs ds : List Int} (h : PkDrawn w hi g p X y k q qs nm pt d ds W) (hh : hi ≤ w.heap.size) (hg : g < w.heap.size) (hq : qs.length ≤ 4) (hs : nm.size ≤ 21) (hd : ds.length ≤ 100) (hp : p ≤ p0 + 500) (a b c e f t : Value) :
    DrewPk w hi g p0 (.returned (.agg #[.int .i64 y, .int .i64 k, q, .string nm, .int .i64 pt, d])) (((((((W).setCell ⟨w.heap.size, 0, none⟩ a).setCell ⟨w.heap.size, 1, none⟩ b).setCell ⟨w.heap.size, 2, none⟩ c).setCell ⟨w.heap.size, 3, none⟩ e).setCell ⟨w.heap.size, 4, none⟩ f).setCell ⟨w.heap.size, 5, none⟩ t) := by
  obtain ⟨⟨h1, h2, h3, h4, h5⟩, h6, h7, h8⟩ := h
  exact ⟨y, k, q, qs, nm, pt, d, ds, p, rfl, (h2.all6 (h2.offBlk h5 (by decide))).more (by omega), (h3.all6 (h3.offBlk h5 (by decide))).more (by omega), hq, hs, hd, hp, h1.all6 (by omega) (by omega), only_all6 h4 (Nat.le_refl _)⟩

/-- Behind a packet drawn from a code. -/
def DrewPk1 (w : World) (e : Ending) (w' : World) : Prop :=
  ∃ f k q qs nm pt d ds, e = .returned (.agg #[.int .i64 f, .int .i64 k, q, .string nm, .int .i64 pt, d]) ∧ Own w' w.heap.size q qs ∧ Own w' w.heap.size d ds ∧ qs.length ≤ 4 ∧ nm.size ≤ 21 ∧ ds.length ≤ 100 ∧ Below w.heap.size w w'

end Go.Proofs.YtpcflkdeoafpeaaDoor
namespace Go.Proofs.YtpcflkdeoafpeaaDoor
open Go.RowKit

/-- Behind a draw of bytes from a code. -/
def DrewZp (w : World) (e : Ending) (w' : World) : Prop := ∃ v zs, e = .returned v ∧ Ints w' 0 v zs ∧ zs.length ≤ 1000 ∧ Below w.heap.size w w'
theorem pkL_len100 (f k : Int) (qs : List Int) (nm : ByteArray) (p : Int) (ds : List Int) : (pkL f k qs nm p ds).length ≤ 100 := by
  cases h : pkOk f k qs nm p ds
  · rw [pkL_not h]; simp
  · rw [pkL_ok h]
    have := pkB_length h
    omega

end Go.Proofs.YtpcflkdeoafpeaaDoor

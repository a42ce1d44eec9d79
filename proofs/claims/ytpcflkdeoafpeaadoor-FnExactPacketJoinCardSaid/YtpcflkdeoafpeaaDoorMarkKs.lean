/-
  The laws' own markPacketS and heldPacketS: a list of packets that the call owns is marked all through, and is found so. Conditions: the rows lie apart; the marks stay below 2^40.
-/
import Derived.Test.YtpcflkdeoafpeaaDoorMarkT
import Derived.Test.YtpcflkdeoafpeaaDoorPkLaws3
import Derived.Test.YtpcflkdeoafpeaaDoorCutLaw
namespace Go.Proofs.YtpcflkdeoafpeaaDoor
open Go.RowKit

/-- A packet that is marked from k on, and the next mark. -/
def mkE (k : Int) (x : Int × Int × List Int × ByteArray × Int × List Int) : Int × Int × List Int × ByteArray × Int × List Int :=
  (k, k + 1, marks (k + 1 + 1) x.2.2.1.length, mText (k + 1 + 1 + x.2.2.1.length), k + 1 + 1 + x.2.2.1.length + 1, marks (k + 1 + 1 + x.2.2.1.length + 1 + 1) x.2.2.2.2.2.length)
def nkE (k : Int) (x : Int × Int × List Int × ByteArray × Int × List Int) : Int := k + 1 + 1 + x.2.2.1.length + 1 + 1 + x.2.2.2.2.2.length
def mkEs : Int → List (Int × Int × List Int × ByteArray × Int × List Int) → List (Int × Int × List Int × ByteArray × Int × List Int)
  | _, [] => []
  | k, x :: r => mkE k x :: mkEs (nkE k x) r
def nkEs : Int → List (Int × Int × List Int × ByteArray × Int × List Int) → Int
  | k, [] => k
  | k, x :: r => nkEs (nkE k x) r
theorem mkEs_length : ∀ (k : Int) (es : List (Int × Int × List Int × ByteArray × Int × List Int)), (mkEs k es).length = es.length
  | _, [] => rfl
  | k, x :: r => by rw [mkEs, List.length_cons, mkEs_length, List.length_cons]
theorem nkE_le (k : Int) (x : Int × Int × List Int × ByteArray × Int × List Int) : k + 4 ≤ nkE k x := by
  unfold nkE
  omega
theorem nkEs_le : ∀ (k : Int) (es : List (Int × Int × List Int × ByteArray × Int × List Int)), k ≤ nkEs k es
  | _, [] => Int.le_refl _
  | k, x :: r => by
    have h1 := nkEs_le (nkE k x) r
    have h2 := nkE_le k x
    rw [nkEs]
    omega
theorem nkEs_take : ∀ (k : Int) (es : List (Int × Int × List Int × ByteArray × Int × List Int)) (j : Nat) (x : Int × Int × List Int × ByteArray × Int × List Int), es[j]? = some x → nkEs k (es.take (j + 1)) = nkE (nkEs k (es.take j)) x
  | k, [], j, x, h => by simp at h
  | k, y :: r, 0, x, h => by
    have : y = x := by simpa using h
    subst this
    rfl
  | k, y :: r, j + 1, x, h => by
    have h' : r[j]? = some x := by simpa using h
    show nkEs (nkE k y) (r.take (j + 1)) = nkE (nkEs (nkE k y) (r.take j)) x
    exact nkEs_take _ r j x h'
theorem nkEs_mono : ∀ (k : Int) (es : List (Int × Int × List Int × ByteArray × Int × List Int)) (j : Nat), nkEs k (es.take j) ≤ nkEs k es
  | k, [], j => by simp
  | k, y :: r, 0 => nkEs_le k _
  | k, y :: r, j + 1 => nkEs_mono (nkE k y) r j
theorem mkEs_set : ∀ (k : Int) (es : List (Int × Int × List Int × ByteArray × Int × List Int)) (j : Nat) (x : Int × Int × List Int × ByteArray × Int × List Int), es[j]? = some x → (mkEs k (es.take j) ++ es.drop j).set j (mkE (nkEs k (es.take j)) x) = mkEs k (es.take (j + 1)) ++ es.drop (j + 1)
  | k, [], j, x, h => by simp at h
  | k, y :: r, 0, x, h => by
    have : y = x := by simpa using h
    subst this
    rfl
  | k, y :: r, j + 1, x, h => by
    have h' : r[j]? = some x := by simpa using h
    show mkE k y :: ((mkEs (nkE k y) (r.take j) ++ r.drop j).set j (mkE (nkEs (nkE k y) (r.take j)) x)) = mkE k y :: (mkEs (nkE k y) (r.take (j + 1)) ++ r.drop (j + 1))
    rw [mkEs_set (nkE k y) r j x h']
theorem mkEs_at : ∀ (k : Int) (es : List (Int × Int × List Int × ByteArray × Int × List Int)) (j : Nat) (x : Int × Int × List Int × ByteArray × Int × List Int), es[j]? = some x → (mkEs k (es.take j) ++ es.drop j)[j]? = some x
  | k, [], j, x, h => by simp at h
  | k, y :: r, 0, x, h => h
  | k, y :: r, j + 1, x, h => by
    have h' : r[j]? = some x := by simpa using h
    show (mkEs (nkE k y) (r.take j) ++ r.drop j)[j]? = some x
    exact mkEs_at _ r j x h'
theorem mkEs_get : ∀ (k : Int) (es : List (Int × Int × List Int × ByteArray × Int × List Int)) (j : Nat) (x : Int × Int × List Int × ByteArray × Int × List Int), es[j]? = some x → (mkEs k es)[j]? = some (mkE (nkEs k (es.take j)) x)
  | k, [], j, x, h => by simp at h
  | k, y :: r, 0, x, h => by
    have : y = x := by simpa using h
    subst this
    rfl
  | k, y :: r, j + 1, x, h => by
    have h' : r[j]? = some x := by simpa using h
    show (mkEs (nkE k y) r)[j]? = some (mkE (nkEs (nkE k y) (r.take j)) x)
    exact mkEs_get _ r j x h'
/-- A cell of a row of packets is stored. -/
theorem pk_setT : ∀ (zs : List ((Int × Int × List Int × ByteArray × Int × List Int) × Value × Value)) (j t : Nat) (z z' : (Int × Int × List Int × ByteArray × Int × List Int) × Value × Value) (u : Value), zs[j]? = some z → t < 6 → pkc z' = (pkc z).set t u → (kv zs).set (j * 6 + t) u = kv (zs.set j z')
  | [], j, t, z, z', u, h, _, _ => by simp at h
  | y :: r, 0, t, z, z', u, h, ht, he => by
    have : y = z := by simpa using h
    subst this
    show (pkc y ++ kv r).set (0 * 6 + t) u = pkc z' ++ kv r
    rw [Nat.zero_mul, Nat.zero_add, List.set_append_left _ _ (by simpa [pkc] using ht), he]
  | y :: r, j + 1, t, z, z', u, h, ht, he => by
    have h' : r[j]? = some z := by simpa using h
    show (pkc y ++ kv r).set ((j + 1) * 6 + t) u = pkc y ++ kv (r.set j z')
    rw [← pk_setT r j t z z' u h' ht he, List.set_append_right _ _ (by simp [pkc]; omega)]
    congr 2
    simp [pkc]
    omega
theorem OwnK.setT {w : World} {base b c n j t : Nat} {zs : List ((Int × Int × List Int × ByteArray × Int × List Int) × Value × Value)} {z z' : (Int × Int × List Int × ByteArray × Int × List Int) × Value × Value} {u : Value} (h : OwnK w base (.slice (some ⟨b, 0, none⟩) n c) zs) (hz : zs[j]? = some z) (ht : t < 6) (he : pkc z' = (pkc z).set t u) :
    OwnK (w.setCell ⟨b, j * 6 + t, none⟩ u) base (.slice (some ⟨b, 0, none⟩) n c) (zs.set j z') := by
  have hn : n = zs.length := by
    obtain ⟨A, c', e, _⟩ := h.form
    injection e
  subst hn
  have h1 := (World.ownsRow.stored h (j * 6 + t) u).1
  unfold OwnK
  rw [List.length_set, ← pk_setT zs j t z z' u hz ht he]
  exact h1
/-- The packets' quads and data read as lists of integers, in blocks from lo on. -/
def RowsI (w : World) (lo : Nat) (zs : List ((Int × Int × List Int × ByteArray × Int × List Int) × Value × Value)) : Prop := ∀ z ∈ zs, Ints w lo z.2.1 z.1.2.2.1 ∧ Ints w lo z.2.2 z.1.2.2.2.2.2
theorem RowsK.ints {w : World} {base : Nat} {zs : List ((Int × Int × List Int × ByteArray × Int × List Int) × Value × Value)} (h : RowsK w base zs) : RowsI w base zs := fun z hz => ⟨(h z hz).1.ints, (h z hz).2.ints⟩
theorem RowsI.below {w w' : World} {lo : Nat} {zs : List ((Int × Int × List Int × ByteArray × Int × List Int) × Value × Value)} (h : RowsI w lo zs) (hb : Below w.heap.size w w') : RowsI w' lo zs := fun z hz => ⟨(h z hz).1.below hb, (h z hz).2.below hb⟩
theorem RowsI.read {w : World} {lo : Nat} {zs : List ((Int × Int × List Int × ByteArray × Int × List Int) × Value × Value)} (h : RowsI w lo zs) : ReadK w zs := fun z hz => ⟨(h z hz).1.zero, (h z hz).2.zero⟩
/-- The rows lie apart from one another and from the packets. -/
def OffK (v : Value) (vs : List (Value × Value)) : Prop := (vs.flatMap fun p => [p.1, p.2]).Pairwise (fun u x => u.ownBlock = none ∨ u.ownBlock ≠ x.ownBlock) ∧ ∀ p ∈ vs, (p.1.ownBlock = none ∨ p.1.ownBlock ≠ v.ownBlock) ∧ (p.2.ownBlock = none ∨ p.2.ownBlock ≠ v.ownBlock)
theorem OffK.of {w : World} {base b0 : Nat} {v : Value} {zs : List ((Int × Int × List Int × ByteArray × Int × List Int) × Value × Value)} (ho : OwnK w b0 v zs) (hr : RowsK w base zs) (ha : ApartK zs) : OffK v (zs.map Prod.snd) := by
  refine ⟨?_, fun p hp => ?_⟩
  · rw [List.flatMap_map]
    exact ha
  · obtain ⟨z, hz, rfl⟩ := List.mem_map.1 hp
    exact ⟨(hr z hz).1.offK ho, (hr z hz).2.offK ho⟩
/-- Two different places of rows that lie apart. -/
theorem pair_at {α : Type} {R : α → α → Prop} (hs : ∀ a b, R a b → R b a) : ∀ {l : List α} {i j : Nat} {x y : α}, l.Pairwise R → l[i]? = some x → l[j]? = some y → i ≠ j → R x y := by
  intro l i j x y hl hi hj hne
  obtain ⟨hi1, hi2⟩ := List.getElem?_eq_some_iff.1 hi
  obtain ⟨hj1, hj2⟩ := List.getElem?_eq_some_iff.1 hj
  rw [List.pairwise_iff_getElem] at hl
  rcases Nat.lt_or_gt_of_ne hne with h | h
  · have := hl i j hi1 hj1 h
    rw [hi2, hj2] at this
    exact this
  · have := hl j i hj1 hi1 h
    rw [hi2, hj2] at this
    exact hs _ _ this
theorem flat_at {vs : List (Value × Value)} : ∀ {j : Nat} {p : Value × Value}, vs[j]? = some p → (vs.flatMap fun p => [p.1, p.2])[j * 2]? = some p.1 ∧ (vs.flatMap fun p => [p.1, p.2])[j * 2 + 1]? = some p.2 := by
  induction vs with
  | nil => intro j p h; simp at h
  | cons y r ih =>
    intro j p h
    cases j with
    | zero =>
      have : y = p := by simpa using h
      subst this
      exact ⟨rfl, rfl⟩
    | succ j =>
      have h' : r[j]? = some p := by simpa using h
      obtain ⟨h1, h2⟩ := ih h'
      rw [List.flatMap_cons, show (j + 1) * 2 = (j * 2) + 2 by omega, show (j * 2) + 2 + 1 = (j * 2 + 1) + 2 by omega]
      exact ⟨h1, h2⟩
theorem off_sym (a b : Value) (h : a.ownBlock = none ∨ a.ownBlock ≠ b.ownBlock) : b.ownBlock = none ∨ b.ownBlock ≠ a.ownBlock := apart_symm h
/-- One packet's quad is written: the others stay. -/
theorem RowsI.quad {w w' : World} {lo j : Nat} {v q d : Value} {zs : List ((Int × Int × List Int × ByteArray × Int × List Int) × Value × Value)} {x : Int × Int × List Int × ByteArray × Int × List Int} {qs : List Int} (h : RowsI w lo zs) (ho : OffK v (zs.map Prod.snd)) (hz : zs[j]? = some (x, q, d)) (hg : w.grownBy w' q.ownBlock) (hq : Ints w' lo q qs) (y : Int × Int × List Int × ByteArray × Int × List Int) (hy : y.2.2.1 = qs ∧ y.2.2.2.2.2 = x.2.2.2.2.2) : RowsI w' lo (zs.set j (y, q, d)) := by
  have hj : (zs.map Prod.snd)[j]? = some (q, d) := by rw [List.getElem?_map, hz]; rfl
  obtain ⟨f1, f2⟩ := flat_at hj
  intro z hzm
  obtain ⟨i, hi⟩ := List.mem_iff_getElem?.1 hzm
  rw [List.getElem?_set] at hi
  split at hi
  · split at hi
    · injection hi with hi
      subst hi
      refine ⟨by rw [hy.1]; exact hq, ?_⟩
      rw [show (y, q, d).1.2.2.2.2.2 = x.2.2.2.2.2 from hy.2]
      exact (h _ (List.mem_of_getElem? hz)).2.keepRow hg (pair_at off_sym ho.1 f2 f1 (by omega))
    · cases hi
  · next hne =>
    have hi2 : (zs.map Prod.snd)[i]? = some z.2 := by rw [List.getElem?_map, hi]; rfl
    obtain ⟨e1, e2⟩ := flat_at hi2
    have hm := h z (List.mem_of_getElem? hi)
    exact ⟨hm.1.keepRow hg (pair_at off_sym ho.1 e1 f1 (by omega)), hm.2.keepRow hg (pair_at off_sym ho.1 e2 f1 (by omega))⟩
theorem RowsI.data {w w' : World} {lo j : Nat} {v q d : Value} {zs : List ((Int × Int × List Int × ByteArray × Int × List Int) × Value × Value)} {x : Int × Int × List Int × ByteArray × Int × List Int} {ds : List Int} (h : RowsI w lo zs) (ho : OffK v (zs.map Prod.snd)) (hz : zs[j]? = some (x, q, d)) (hg : w.grownBy w' d.ownBlock) (hd : Ints w' lo d ds) (y : Int × Int × List Int × ByteArray × Int × List Int) (hy : y.2.2.1 = x.2.2.1 ∧ y.2.2.2.2.2 = ds) : RowsI w' lo (zs.set j (y, q, d)) := by
  have hj : (zs.map Prod.snd)[j]? = some (q, d) := by rw [List.getElem?_map, hz]; rfl
  obtain ⟨f1, f2⟩ := flat_at hj
  intro z hzm
  obtain ⟨i, hi⟩ := List.mem_iff_getElem?.1 hzm
  rw [List.getElem?_set] at hi
  split at hi
  · split at hi
    · injection hi with hi
      subst hi
      refine ⟨?_, by rw [hy.2]; exact hd⟩
      rw [show (y, q, d).1.2.2.1 = x.2.2.1 from hy.1]
      exact (h _ (List.mem_of_getElem? hz)).1.keepRow hg (pair_at off_sym ho.1 f1 f2 (by omega))
    · cases hi
  · next hne =>
    have hi2 : (zs.map Prod.snd)[i]? = some z.2 := by rw [List.getElem?_map, hi]; rfl
    obtain ⟨e1, e2⟩ := flat_at hi2
    have hm := h z (List.mem_of_getElem? hi)
    exact ⟨hm.1.keepRow hg (pair_at off_sym ho.1 e1 f2 (by omega)), hm.2.keepRow hg (pair_at off_sym ho.1 e2 f2 (by omega))⟩
/-- A packet's cell is stored: the rows of integers stay. -/
theorem RowsI.far {w : World} {lo b n c t : Nat} {zs : List ((Int × Int × List Int × ByteArray × Int × List Int) × Value × Value)} {u : Value} (h : RowsI w lo zs) (ho : OffK (.slice (some ⟨b, 0, none⟩) n c) (zs.map Prod.snd)) : RowsI (w.setCell ⟨b, t, none⟩ u) lo zs := by
  have hg : w.grownBy (w.setCell ⟨b, t, none⟩ u) (Value.slice (some ⟨b, 0, none⟩) n c).ownBlock := only_setCell (p := ⟨b, t, none⟩) (World.grownBy.refl w (some b)) (.inl rfl) u
  intro z hz
  have h1 := ho.2 z.2 (List.mem_map_of_mem hz)
  exact ⟨(h z hz).1.keepRow hg h1.1, (h z hz).2.keepRow hg h1.2⟩
/-- What is not in the cells may be told anew. -/
theorem kv_swap : ∀ {zs : List ((Int × Int × List Int × ByteArray × Int × List Int) × Value × Value)} {j : Nat} {z z' : (Int × Int × List Int × ByteArray × Int × List Int) × Value × Value}, zs[j]? = some z → pkc z' = pkc z → kv (zs.set j z') = kv zs
  | [], j, z, z', h, _ => by simp at h
  | y :: r, 0, z, z', h, he => by
    have : y = z := by simpa using h
    subst this
    show pkc z' ++ kv r = pkc y ++ kv r
    rw [he]
  | y :: r, j + 1, z, z', h, he => by
    have h' : r[j]? = some z := by simpa using h
    show pkc y ++ kv (r.set j z') = pkc y ++ kv r
    rw [kv_swap h' he]
theorem OwnK.swap {w : World} {base j : Nat} {v : Value} {zs : List ((Int × Int × List Int × ByteArray × Int × List Int) × Value × Value)} {z : (Int × Int × List Int × ByteArray × Int × List Int) × Value × Value} (h : OwnK w base v zs) (hz : zs[j]? = some z) (z' : (Int × Int × List Int × ByteArray × Int × List Int) × Value × Value) (he : pkc z' = pkc z) : OwnK w base v (zs.set j z') := by
  unfold OwnK at *
  rw [List.length_set, kv_swap hz he]
  exact h
theorem set_snd {zs : List ((Int × Int × List Int × ByteArray × Int × List Int) × Value × Value)} {j : Nat} {x : Int × Int × List Int × ByteArray × Int × List Int} {q d : Value} (hz : zs[j]? = some (x, q, d)) (y : Int × Int × List Int × ByteArray × Int × List Int) : (zs.set j (y, q, d)).map Prod.snd = zs.map Prod.snd := by
  rw [List.map_set]
  refine List.ext_getElem? fun i => ?_
  rw [List.getElem?_set]
  split
  · next h =>
    subst h
    have : (zs.map Prod.snd)[j]? = some (q, d) := by rw [List.getElem?_map, hz]; rfl
    rw [this]
    have := (List.getElem?_eq_some_iff.1 this).1
    rw [if_pos this]
  · rfl
theorem set_at {zs : List ((Int × Int × List Int × ByteArray × Int × List Int) × Value × Value)} {j : Nat} {z : (Int × Int × List Int × ByteArray × Int × List Int) × Value × Value} (hz : zs[j]? = some z) (z' : (Int × Int × List Int × ByteArray × Int × List Int) × Value × Value) : (zs.set j z')[j]? = some z' := by
  rw [List.getElem?_set_self (List.getElem?_eq_some_iff.1 hz).1]

theorem seg_cells {w : World} {base b n c j : Nat} {zs : List ((Int × Int × List Int × ByteArray × Int × List Int) × Value × Value)} {x : Int × Int × List Int × ByteArray × Int × List Int} {q d : Value} (h : OwnK w base (.slice (some ⟨b, 0, none⟩) n c) zs) (hz : zs[j]? = some (x, q, d)) :
    w.cell? ⟨b, j * 6, none⟩ = some (.int .i64 x.1) ∧ w.cell? ⟨b, j * 6 + 1, none⟩ = some (.int .i64 x.2.1) ∧ w.cell? ⟨b, j * 6 + 2, none⟩ = some q ∧ w.cell? ⟨b, j * 6 + 3, none⟩ = some (.string x.2.2.2.1) ∧ w.cell? ⟨b, j * 6 + 4, none⟩ = some (.int .i64 x.2.2.2.2.1) ∧ w.cell? ⟨b, j * 6 + 5, none⟩ = some d := by
  obtain ⟨A, c', e, _, _, hA⟩ := h.form
  injection e with e1 _ _
  obtain ⟨b', e2, _, _, hs⟩ := hA.resolve_left (fun h => by rw [h] at hz; simp at hz)
  rw [← e1] at e2
  injection e2 with e2
  injection e2 with e2
  subst e2
  have h := pk_cells hs hz
  simpa using h
theorem seg_free {w : World} {base b n c j : Nat} {zs : List ((Int × Int × List Int × ByteArray × Int × List Int) × Value × Value)} {z : (Int × Int × List Int × ByteArray × Int × List Int) × Value × Value} (h : OwnK w base (.slice (some ⟨b, 0, none⟩) n c) zs) (hz : zs[j]? = some z) (i : Nat) : w.frozen? ⟨b, i, none⟩ = false := by
  obtain ⟨A, c', e, _, _, hA⟩ := h.form
  injection e with e1 _ _
  obtain ⟨b', e2, _, _, hs⟩ := hA.resolve_left (fun h => by rw [h] at hz; simp at hz)
  rw [← e1] at e2
  injection e2 with e2
  injection e2 with e2
  subst e2
  exact hs.frozen i

set_option maxRecDepth 100000 in
set_option maxHeartbeats 4000000 in
theorem markPacketS_any (v : Value) (zs : List ((Int × Int × List Int × ByteArray × Int × List Int) × Value × Value)) (base : Nat) (k0 : Int) (w : World) (hv : OwnK w base v zs) (hr : RowsK w base zs) (ha : ApartK zs) (hb : base ≤ w.heap.size) (h0 : 0 ≤ k0) (h1 : nkEs k0 (zs.map Prod.fst) ≤ 1099511627776) :
    Calls Tryd.prog 13 #[v, .int .i64 k0] w fun e w' => e = .returned (.int .i64 (nkEs k0 (zs.map Prod.fst))) ∧ ∃ ys, ys.map Prod.fst = mkEs k0 (zs.map Prod.fst) ∧ OwnK w' base v ys ∧ RowsI w' base ys ∧ Below base w w' := by
  have OFF := Lib.hid (OffK.of hv hr ha)
  have HV := Lib.hid hv
  have HR := Lib.hid hr.ints
  have HLOW : Hid (∀ p ∈ zs.map Prod.snd, (∀ i, p.1.ownBlock = some i → base ≤ i) ∧ (∀ i, p.2.ownBlock = some i → base ≤ i)) := Lib.hid fun p hp => by
    obtain ⟨z, hz, rfl⟩ := List.mem_map.1 hp
    exact ⟨fun i hi => (World.ownsRow.lt (hr z hz).1 i hi).1, fun i hi => (World.ownsRow.lt (hr z hz).2 i hi).1⟩
  obtain ⟨es, hes⟩ : ∃ es, zs.map Prod.fst = es := ⟨_, rfl⟩
  have HES := Lib.hid hes
  obtain ⟨A, c, rfl, hc, hm, hA⟩ := hv.form
  have HA := Lib.hid (show zs = [] ∨ ∃ b, A = some ⟨b, 0, none⟩ ∧ base ≤ b from hA.imp id fun ⟨b, h1, h2, _⟩ => ⟨b, h1, h2⟩)
  obtain ⟨n, hn⟩ : ∃ n, zs.length = n := ⟨_, rfl⟩
  have HN := Lib.hid hn
  have HB0 := Lib.hid hb
  rw [hes] at h1 ⊢
  have H1 := Lib.hid h1
  rw [hn] at hm HV OFF ⊢
  clear hv hr ha hes hA hn hb h1
  go_enter Tryd.func13, Tryd.ntmps13
  go_wp2_with fail
  go_loopw [1, 5] (fun kk i wr => ∃ (j : Nat) (m : Int) (ys : List ((Int × Int × List Int × ByteArray × Int × List Int) × Value × Value)), j ≤ n ∧ i = .int .i64 (j : Int) ∧ kk = .int .i64 m ∧ Hid (m = nkEs k0 (es.take j)) ∧ Hid (ys.map Prod.fst = mkEs k0 (es.take j) ++ es.drop j) ∧ Hid (ys.map Prod.snd = zs.map Prod.snd) ∧ Hid (OwnK wr base (.slice A n c) ys) ∧ Hid (RowsI wr base ys) ∧ Hid (Below base w wr)) (fun _ i _ => n - (intOf i).toNat)
  case atStart => exact ⟨0, k0, zs, Nat.zero_le _, rfl, rfl, Lib.hid rfl, Lib.hid HES.out, Lib.hid rfl, HV, HR, Lib.hid (Below.refl _ _)⟩
  case round =>
    obtain ⟨j, m, ys, hj, rfl, rfl, HM, HF, HS, OK, RI, HB⟩ := hrel
    by_cases hlt : j < n
    · have hlt' : (j : Int) < (n : Int) := by omega
      have hji0 : (0 : Int) ≤ (j : Int) := by omega
      obtain ⟨b, rfl, hbb⟩ := HA.out.resolve_left (fun h => by have := HN.out; rw [h] at this; simp at this; omega)
      obtain ⟨x, hx⟩ : ∃ x, es[j]? = some x := ⟨es[j]'(by rw [← HES.out, List.length_map, HN.out]; exact hlt), List.getElem?_eq_getElem _⟩
      have hyj : (ys.map Prod.fst)[j]? = some x := by rw [HF.out]; exact mkEs_at k0 es j x hx
      obtain ⟨⟨x', q, d⟩, hz, hzx⟩ : ∃ z, ys[j]? = some z ∧ z.1 = x := by
        rw [List.getElem?_map] at hyj
        exact Option.map_eq_some_iff.1 hyj
      dsimp only at hzx
      subst hzx
      have hnk := nkEs_take k0 es j x' hx
      have hnl := nkEs_mono k0 es (j + 1)
      rw [hnk, ← HM.out] at hnl
      have hm0 : 0 ≤ m := by rw [HM.out]; exact Int.le_trans h0 (nkEs_le _ _)
      obtain ⟨f, k, qs, nm, p, ds⟩ := x'
      have HZ := Lib.hid hz
      have HNK := Lib.hid hnk
      have HSET := Lib.hid (mkEs_set k0 es j _ hx)
      have OF := Lib.hid (show OffK (.slice (some ⟨b, 0, none⟩) n c) (ys.map Prod.snd) by rw [HS.out]; exact OFF.out)
      have hof := OF.out.2 (q, d) (by rw [List.mem_iff_getElem?]; exact ⟨j, by rw [List.getElem?_map, hz]; rfl⟩)
      have HOQ := Lib.hid (apart_symm hof.1)
      have HLO := Lib.hid (HLOW.out (q, d) (by rw [← HS.out, List.mem_iff_getElem?]; exact ⟨j, by rw [List.getElem?_map, hz]; rfl⟩))
      have HOD := Lib.hid (apart_symm hof.2)
      obtain ⟨hq, hd⟩ := RI.out _ (List.mem_of_getElem? hz)
      dsimp only at hq hd
      obtain ⟨Aq, cq, rfl, _, _, _⟩ := hq.open_
      obtain ⟨Ad, cd, rfl, _, _, _⟩ := hd.open_
      have hm1 : m + 4 + (qs.length : Int) + (ds.length : Int) ≤ 1099511627776 := by
        have h := Int.le_trans hnl H1.out
        unfold nkE at h
        dsimp only at h
        omega
      have C := seg_cells OK.out hz
      obtain ⟨y0, y1, y2, y3, y4, y5⟩ := C
      have f0 := seg_free OK.out hz (j * 6)
      have f1 := seg_free OK.out hz (j * 6 + 1)
      obtain ⟨W1, hW1⟩ : ∃ W1, (wr.setCell ⟨b, j * 6, none⟩ (.int .i64 m)).setCell ⟨b, j * 6 + 1, none⟩ (.int .i64 (m + 1)) = W1 := ⟨_, rfl⟩
      have OK1 : Hid (OwnK W1 base (.slice (some ⟨b, 0, none⟩) n c) (ys.set j ((m, m + 1, qs, nm, p, ds), .slice Aq qs.length cq, .slice Ad ds.length cd))) := Lib.hid (by
        have h := (OK.out.setT hz (t := 0) (u := .int .i64 m) (z' := ((m, k, qs, nm, p, ds), .slice Aq qs.length cq, .slice Ad ds.length cd)) (by omega) rfl).setT (set_at hz _) (t := 1) (u := .int .i64 (m + 1)) (z' := ((m, m + 1, qs, nm, p, ds), .slice Aq qs.length cq, .slice Ad ds.length cd)) (by omega) rfl
        rw [List.set_set] at h
        rw [← hW1]
        exact h)
      have RI1 : Hid (RowsI W1 base ys) := Lib.hid (by rw [← hW1]; exact (RI.out.far OF.out).far OF.out)
      have HB1 : Hid (Below base w W1) := Lib.hid (by rw [← hW1]; exact (HB.out.setCell (p := ⟨b, j * 6, none⟩) hbb _).setCell (p := ⟨b, j * 6 + 1, none⟩) hbb _)
      have HB01 : Hid (base ≤ W1.heap.size) := Lib.hid (Nat.le_trans HB0.out HB1.out.size)
      have C1 := seg_cells OK1.out (set_at hz _)
      obtain ⟨z0, z1, z2, z3, z4, z5⟩ := C1
      have g3 := seg_free OK1.out (set_at hz ((m, m + 1, qs, nm, p, ds), .slice Aq qs.length cq, .slice Ad ds.length cd)) (j * 6 + 3)
      have hkq : 0 ≤ m + 1 + 1 ∧ m + 1 + 1 ≤ 1099511627776 := by omega
      have hql : qs.length ≤ 1099511627776 := by omega
      have hdl : ds.length ≤ 1099511627776 := by omega
      clear hz hx hyj hnk hnl hq hd hof OK RI HB
      have HQ1 := Lib.hid (RI1.out _ (List.mem_of_getElem? HZ.out)).1
      go_wp2_with fail
      clear hW1
      refine (markIntS_any _ qs base _ _ HQ1.out hkq.1 hkq.2 hql).mono ?_
      rintro e w2 ⟨rfl, i2, g2⟩
      obtain ⟨T, hT⟩ : ∃ T, mText (m + 1 + 1 + (qs.length : Int)) = T := ⟨_, rfl⟩
      have OK2 := Lib.hid (OK1.out.keep g2 HOQ.out)
      have RI2 := Lib.hid (RI1.out.quad OF.out HZ.out g2 i2 (m, m + 1, marks (m + 1 + 1) qs.length, T, m + 1 + 1 + (qs.length : Int) + 1, ds) ⟨rfl, rfl⟩)
      have HB2 := Lib.hid (HB1.out.grown g2 HB01.out HLO.out.1)
      clear i2 g2 OK1 RI1 HB1 HQ1 z0 z1 z2 z3 z4 z5 y0 y1 y2 y3 y4 y5 f0 f1 g3
      obtain ⟨z0, z1, z2, z3, z4, z5⟩ := seg_cells OK2.out (set_at HZ.out _)
      have hk2 : 0 ≤ m + 1 + 1 + (qs.length : Int) ∧ m + 1 + 1 + (qs.length : Int) ≤ 1099511627776 := by omega
      go_wp2_with fail
      refine (markText_any _ _ hk2.1 hk2.2).mono ?_
      rintro e w3 ⟨rfl, b3⟩
      rw [hT]
      have OK3 := Lib.hid (OK2.out.below b3)
      have RI3 := Lib.hid (RI2.out.below b3)
      have HB3 := Lib.hid (HB2.out.trans (b3.mono (Nat.le_trans HB0.out HB2.out.size)))
      clear b3 OK2 RI2 HB2 z0 z1 z2 z3 z4 z5
      obtain ⟨z0, z1, z2, z3, z4, z5⟩ := seg_cells OK3.out (set_at HZ.out _)
      have g3 := seg_free OK3.out (set_at HZ.out _) (j * 6 + 3)
      have g4 := seg_free OK3.out (set_at HZ.out _) (j * 6 + 4)
      have e3 := seg_free OK3.out (set_at HZ.out _) (j * 6 + 1 + 2)
      have e4 := seg_free OK3.out (set_at HZ.out _) (j * 6 + 1 + 3)
      go_wp2_with fail
      obtain ⟨W4, hW4⟩ : ∃ W4, (w3.setCell ⟨b, j * 6 + 1 + 2, none⟩ (.string T)).setCell ⟨b, j * 6 + 1 + 3, none⟩ (.int .i64 (m + 1 + 1 + (qs.length : Int) + 1)) = W4 := ⟨_, rfl⟩
      rw [hW4]
      have OK4 : Hid (OwnK W4 base (.slice (some ⟨b, 0, none⟩) n c) (ys.set j ((m, m + 1, qs, T, m + 1 + 1 + (qs.length : Int) + 1, ds), .slice Aq qs.length cq, .slice Ad ds.length cd))) := Lib.hid (by
        have h := (OK3.out.setT (set_at HZ.out _) (t := 3) (u := .string T) (z' := ((m, m + 1, qs, T, p, ds), .slice Aq qs.length cq, .slice Ad ds.length cd)) (by omega) rfl).setT (set_at (set_at HZ.out _) _) (t := 4) (u := .int .i64 (m + 1 + 1 + (qs.length : Int) + 1)) (z' := ((m, m + 1, qs, T, m + 1 + 1 + (qs.length : Int) + 1, ds), .slice Aq qs.length cq, .slice Ad ds.length cd)) (by omega) rfl
        rw [List.set_set, List.set_set] at h
        rw [← hW4]
        exact h)
      have OF2 := Lib.hid (show OffK (.slice (some ⟨b, 0, none⟩) n c) ((ys.set j ((m, m + 1, marks (m + 1 + 1) qs.length, T, m + 1 + 1 + (qs.length : Int) + 1, ds), .slice Aq qs.length cq, .slice Ad ds.length cd)).map Prod.snd) by rw [set_snd HZ.out]; exact OF.out)
      have RI4 : Hid (RowsI W4 base (ys.set j ((m, m + 1, marks (m + 1 + 1) qs.length, T, m + 1 + 1 + (qs.length : Int) + 1, ds), .slice Aq qs.length cq, .slice Ad ds.length cd))) := Lib.hid (by rw [← hW4]; exact (RI3.out.far OF2.out).far OF2.out)
      have HB4 : Hid (Below base w W4) := Lib.hid (by rw [← hW4]; exact (HB3.out.setCell (p := ⟨b, j * 6 + 1 + 2, none⟩) hbb _).setCell (p := ⟨b, j * 6 + 1 + 3, none⟩) hbb _)
      have HD4 := Lib.hid (RI4.out _ (List.mem_of_getElem? (set_at HZ.out _))).2
      have hk4 : 0 ≤ m + 1 + 1 + (qs.length : Int) + 1 + 1 ∧ m + 1 + 1 + (qs.length : Int) + 1 + 1 ≤ 1099511627776 := by omega
      clear hW4 OK3 RI3 HB3 z0 z1 z2 z3 z4 z5 g3 g4 e3 e4
      refine (markIntS_any _ ds base _ _ HD4.out hk4.1 hk4.2 hdl).mono ?_
      rintro e w5 ⟨rfl, i5, g5⟩
      have OK5 := Lib.hid ((OK4.out.keep g5 HOD.out).swap (set_at HZ.out _) (mkE m (f, k, qs, nm, p, ds), .slice Aq qs.length cq, .slice Ad ds.length cd) (by rw [← hT]; rfl))
      rw [List.set_set] at OK5
      have RI5 := Lib.hid (RI4.out.data OF2.out (set_at HZ.out _) g5 i5 (mkE m (f, k, qs, nm, p, ds)) ⟨rfl, rfl⟩)
      rw [List.set_set] at RI5
      have HB5 := Lib.hid (HB4.out.grown g5 (Nat.le_trans HB0.out HB4.out.size) HLO.out.2)
      have HM5 : Hid (m + 1 + 1 + (qs.length : Int) + 1 + 1 + (ds.length : Int) = nkEs k0 (es.take (j + 1))) := Lib.hid (by rw [HNK.out, ← HM.out]; rfl)
      have HF5 : Hid ((ys.set j (mkE m (f, k, qs, nm, p, ds), .slice Aq qs.length cq, .slice Ad ds.length cd)).map Prod.fst = mkEs k0 (es.take (j + 1)) ++ es.drop (j + 1)) := Lib.hid (by rw [List.map_set, HF.out, ← HSET.out, ← HM.out])
      have HS5 : Hid ((ys.set j (mkE m (f, k, qs, nm, p, ds), .slice Aq qs.length cq, .slice Ad ds.length cd)).map Prod.snd = zs.map Prod.snd) := Lib.hid ((set_snd HZ.out _).trans HS.out)
      clear i5 g5 OK4 RI4 HB4 HD4 hT
      go_wp2_with fail
      go_roundw
      case rel => exact ⟨j + 1, _, _, by omega, by go_num, rfl, HM5, HF5, HS5, OK5, RI5, HB5⟩
      case measure => simp [intOf]; omega
    · have hge : ¬ (j : Int) < (n : Int) := by omega
      have hjn : j = n := by omega
      have HLN : Hid (es.length = n) := Lib.hid (by rw [← HES.out, List.length_map, HN.out])
      have HF2 : Hid (ys.map Prod.fst = mkEs k0 es) := Lib.hid (by
        have h := HF.out
        rwa [hjn, List.take_of_length_le (by rw [HLN.out]; omega), List.drop_of_length_le (by rw [HLN.out]; omega), List.append_nil] at h)
      have HM2 : Hid (m = nkEs k0 es) := Lib.hid (by rw [HM.out, hjn, List.take_of_length_le (by rw [HLN.out]; omega)])
      clear hlt hjn
      go_wp2_with fail
      go_ret
      exact ⟨by rw [← HM2.out]; rfl, ys, HF2.out, OK.out, RI.out, HB.out⟩

end Go.Proofs.YtpcflkdeoafpeaaDoor

/-
  Rows of packets: six cells each; what append does to them; their quads and data. Conditions: none.
  The fragments of data, as plain lists. Conditions: none.
  The fragments of data, one rule for all of them; each of them is a packet. Conditions: none.
-/
import Derived.Test.YtpcflkdeoafpeaaDoorPkOk
import Derived.Test.YtpcflkdeoafpeaaDoorAppend
import Derived.Test.YtpcflkdeoafpeaaDoorMarks
import Derived.Test.YtpcflkdeoafpeaaDoorPk
namespace Go.Proofs.YtpcflkdeoafpeaaDoor
open Go.RowKit

/-- A packet's six cells: its data, the slices of its quad and its bytes. -/
def pkc (z : ((Int × Int × List Int × ByteArray × Int × List Int) × Value × Value)) : List Value := [.int .i64 z.1.1, .int .i64 z.1.2.1, z.2.1, .string z.1.2.2.2.1, .int .i64 z.1.2.2.2.2.1, z.2.2]
def kv (zs : List ((Int × Int × List Int × ByteArray × Int × List Int) × Value × Value)) : List Value := zs.flatMap pkc
theorem kv_length (zs : List ((Int × Int × List Int × ByteArray × Int × List Int) × Value × Value)) : (kv zs).length = zs.length * 6 := by
  induction zs with
  | nil => rfl
  | cons p r ih =>
    unfold kv at *
    rw [List.flatMap_cons, List.length_append, ih, List.length_cons]
    simp [pkc]
    omega
theorem kv_get : ∀ (zs : List ((Int × Int × List Int × ByteArray × Int × List Int) × Value × Value)) (j t : Nat) (z : ((Int × Int × List Int × ByteArray × Int × List Int) × Value × Value)), zs[j]? = some z → t < 6 → (kv zs)[j * 6 + t]? = (pkc z)[t]?
  | [], j, t, z, h, _ => by simp at h
  | y :: r, 0, t, z, h, ht => by
    have : y = z := by simpa using h
    subst this
    show (pkc y ++ kv r)[0 * 6 + t]? = _
    rw [Nat.zero_mul, Nat.zero_add, List.getElem?_append_left (by simpa [pkc] using ht)]
  | y :: r, j + 1, t, z, h, ht => by
    have h' : r[j]? = some z := by simpa using h
    have ih := kv_get r j t z h' ht
    show (pkc y ++ kv r)[(j + 1) * 6 + t]? = _
    rw [List.getElem?_append_right (by simp [pkc]; omega)]
    rw [← ih]
    congr 1
    simp [pkc]
    omega
theorem kv_append (a b : List ((Int × Int × List Int × ByteArray × Int × List Int) × Value × Value)) : kv (a ++ b) = kv a ++ kv b := by simp [kv]
theorem kv_oneCell' (zs : List ((Int × Int × List Int × ByteArray × Int × List Int) × Value × Value)) (h : ∀ z ∈ zs, z.2.1.oneCell' = true ∧ z.2.2.oneCell' = true) : ∀ x ∈ kv zs, x.oneCell' = true := by
  intro x hx
  unfold kv at hx
  rw [List.mem_flatMap] at hx
  obtain ⟨z, hz, hx⟩ := hx
  have := h z hz
  simp [pkc] at hx
  rcases hx with rfl | rfl | rfl | rfl | rfl | rfl
  · rfl
  · rfl
  · exact this.1
  · rfl
  · rfl
  · exact this.2
theorem pk_set0 : ∀ (zs : List ((Int × Int × List Int × ByteArray × Int × List Int) × Value × Value)) (j : Nat) (z : ((Int × Int × List Int × ByteArray × Int × List Int) × Value × Value)) (f : Int), zs[j]? = some z → (kv zs).set (j * 6) (.int .i64 f) = kv (zs.set j ((f, z.1.2), z.2))
  | [], j, z, f, h => by simp at h
  | y :: r, 0, z, f, h => by
    have : y = z := by simpa using h
    subst this
    rfl
  | y :: r, j + 1, z, f, h => by
    have h' : r[j]? = some z := by simpa using h
    have e : kv (y :: r) = pkc y ++ kv r := rfl
    have e2 : (y :: r).set (j + 1) ((f, z.1.2), z.2) = y :: r.set j ((f, z.1.2), z.2) := rfl
    have e3 : kv (y :: r.set j ((f, z.1.2), z.2)) = pkc y ++ kv (r.set j ((f, z.1.2), z.2)) := rfl
    rw [e, e2, e3, ← pk_set0 r j z f h', List.set_append_right _ _ (by simp [pkc]; omega)]
    congr 2
    simp [pkc]
    omega
/-- The slice value v reads as the packets zs. -/
def Pkts (w : World) (lo : Nat) (v : Value) (zs : List ((Int × Int × List Int × ByteArray × Int × List Int) × Value × Value)) : Prop := Sl w 32 6 lo v zs.length (kv zs)
theorem Pkts.open_ {w : World} {lo : Nat} {v : Value} {zs : List ((Int × Int × List Int × ByteArray × Int × List Int) × Value × Value)} (h : Pkts w lo v zs) :
    ∃ A c, v = .slice A zs.length c ∧ zs.length ≤ c ∧ c ≤ 9223372036854775807 ∧ (zs = [] ∨ ∃ b o, A = some ⟨b, o, none⟩ ∧ lo ≤ b ∧ b < w.heap.size ∧ Seg w 32 b o (kv zs)) := by
  obtain ⟨hl, A, c, h1, h2, h3, h4⟩ := h
  refine ⟨A, c, h1, h2, by unfold maxLen at h3; omega, ?_⟩
  rcases h4 with h4 | ⟨b, o, h5, h6, h7⟩
  · left
    have : (kv zs).length = 0 := by rw [h4]; rfl
    rw [kv_length] at this
    exact List.eq_nil_of_length_eq_zero (by omega)
  · exact .inr ⟨b, o, h5, h6, h7.lt, h7⟩
theorem Pkts.below {w w' : World} {lo : Nat} {v : Value} {zs : List ((Int × Int × List Int × ByteArray × Int × List Int) × Value × Value)} (h : Pkts w lo v zs) (hb : Below w.heap.size w w') : Pkts w' lo v zs := Sl.below h hb
theorem Pkts.alloc {w : World} {lo : Nat} {v : Value} {zs : List ((Int × Int × List Int × ByteArray × Int × List Int) × Value × Value)} (h : Pkts w lo v zs) (o : Obj) : Pkts (w.alloc o) lo v zs := Sl.alloc h o
theorem Pkts.drewN {w : World} {lo : Nat} {v : Value} {zs : List ((Int × Int × List Int × ByteArray × Int × List Int) × Value × Value)} (h : Pkts w lo v zs) (n : Nat) : Pkts (w.drewN n) lo v zs := h
theorem Pkts.drew {w : World} {lo : Nat} {v : Value} {zs : List ((Int × Int × List Int × ByteArray × Int × List Int) × Value × Value)} (h : Pkts w lo v zs) : Pkts w.drew lo v zs := h
theorem Pkts.zero {w : World} {lo : Nat} {v : Value} {zs : List ((Int × Int × List Int × ByteArray × Int × List Int) × Value × Value)} (h : Pkts w lo v zs) : Pkts w 0 v zs := Sl.zero h
/-- v is a slice of packets that the call owns. -/
def OwnK (w : World) (base : Nat) (v : Value) (zs : List ((Int × Int × List Int × ByteArray × Int × List Int) × Value × Value)) : Prop := w.ownsRow base 32 6 v zs.length (kv zs)
theorem OwnK.pkts {w : World} {base : Nat} {v : Value} {zs : List ((Int × Int × List Int × ByteArray × Int × List Int) × Value × Value)} (h : OwnK w base v zs) : Pkts w base v zs := Sl.of_own h
theorem OwnK.alloc {w : World} {base : Nat} {v : Value} {zs : List ((Int × Int × List Int × ByteArray × Int × List Int) × Value × Value)} (h : OwnK w base v zs) (o : Obj) : OwnK (w.alloc o) base v zs := World.ownsRow.alloc h o
theorem OwnK.drew {w : World} {base : Nat} {v : Value} {zs : List ((Int × Int × List Int × ByteArray × Int × List Int) × Value × Value)} (h : OwnK w base v zs) : OwnK w.drew base v zs := h
theorem OwnK.keep {w w' : World} {base : Nat} {v : Value} {zs : List ((Int × Int × List Int × ByteArray × Int × List Int) × Value × Value)} {row : Option Nat} (h : OwnK w base v zs) (hg : w.grownBy w' row) (hne : v.ownBlock = none ∨ v.ownBlock ≠ row) : OwnK w' base v zs := World.ownsRow.kept h hg hne
theorem OwnK.below {w w' : World} {base : Nat} {v : Value} {zs : List ((Int × Int × List Int × ByteArray × Int × List Int) × Value × Value)} (h : OwnK w base v zs) (hb : Below w.heap.size w w') : OwnK w' base v zs :=
  World.ownsRow.kept (row := none) h ⟨hb.os, hb.tape, hb.output, hb.size, fun k hk _ => hb.block k hk⟩ (by cases v.ownBlock <;> simp)
theorem OwnK.lit (w : World) (zs : List ((Int × Int × List Int × ByteArray × Int × List Int) × Value × Value)) (base : Nat) (hb : base ≤ w.heap.size) (hm : zs.length ≤ 9223372036854775807) :
    OwnK (w.alloc (.cells (kv zs).toArray 32)) base (.slice (some ⟨w.heap.size, 0, none⟩) zs.length zs.length) zs := by
  have h := World.ownsRow_lit (base := base) (e := 32) (size := 6) w (kv zs).toArray zs.length hb (by unfold maxLen; omega) (by simp [kv_length])
  simpa [OwnK] using h
theorem OwnK.nil_ (w : World) (base : Nat) : OwnK w base (.slice none 0 0) [] := ⟨by simp [kv], .inl ⟨rfl, rfl⟩⟩
theorem litK0 {W : World} {g base : Nat} (hg : g = W.heap.size) (hb : base ≤ W.heap.size) : OwnK (W.alloc (.cells #[] 32)) base (.slice (some ⟨g, 0, none⟩) 0 0) [] := by
  subst hg
  exact OwnK.lit W [] base hb (by simp)
theorem litK1 {W : World} {g base : Nat} (f k : Int) (q : Value) (qs : List Int) (nm : ByteArray) (p : Int) (d : Value) (ds : List Int) (hg : g = W.heap.size) (hb : base ≤ W.heap.size) : OwnK (W.alloc (.cells #[.int .i64 f, .int .i64 k, q, .string nm, .int .i64 p, d] 32)) base (.slice (some ⟨g, 0, none⟩) 1 1) [((f, k, qs, nm, p, ds), q, d)] := by
  subst hg
  exact OwnK.lit W [((f, k, qs, nm, p, ds), q, d)] base hb (by simp)
theorem OwnK.form {w : World} {base : Nat} {v : Value} {zs : List ((Int × Int × List Int × ByteArray × Int × List Int) × Value × Value)} (h : OwnK w base v zs) : ∃ A c, v = .slice A zs.length c ∧ c ≤ 9223372036854775807 ∧ zs.length ≤ c ∧ (zs = [] ∨ ∃ b, A = some ⟨b, 0, none⟩ ∧ base ≤ b ∧ b < w.heap.size ∧ Seg w 32 b 0 (kv zs)) := by
  rcases h.2 with ⟨rfl, h0⟩ | ⟨g, cap, cur, rfl, hb, hh, hnc, hcm, _, ht⟩
  · exact ⟨none, 0, by rw [h0], by omega, by omega, .inl (List.eq_nil_of_length_eq_zero h0)⟩
  · refine ⟨_, cap, rfl, by unfold maxLen at hcm; omega, hnc, .inr ⟨g, rfl, hb, (Array.getElem?_eq_some_iff.1 hh).1, cur, hh, fun j u hu => ?_⟩⟩
    rw [← ht, List.getElem?_take] at hu
    split at hu
    · simpa using hu
    · cases hu
theorem below_ownK {base : Nat} {w w' : World} {v : Value} {zs : List ((Int × Int × List Int × ByteArray × Int × List Int) × Value × Value)} (h : OwnK w base v zs) (hg : w.grownBy w' v.ownBlock) (hb : base ≤ w.heap.size) : Below base w w' :=
  (Below.refl base w).grown hg hb fun k hk => (World.ownsRow.lt h k hk).1
theorem Tryd.infoPacket : (Tryd.prog.info? 32).map (fun i => (i.zero, i.size, i.bytes)) = some (some (.agg #[.int .i64 0, .int .i64 0, .slice none 0 0, .string .empty, .int .i64 0, .slice none 0 0]), 6, 88) := by kernel_rfl
/-- An own row of integers lies apart from an own row of packets. -/
theorem Own.offK {w : World} {b0 base : Nat} {u v : Value} {us : List Int} {zs : List ((Int × Int × List Int × ByteArray × Int × List Int) × Value × Value)} (h : Own w b0 u us) (hk : OwnK w base v zs) : u.ownBlock = none ∨ u.ownBlock ≠ v.ownBlock := by
  rcases h.2 with ⟨h0, _⟩ | ⟨b, cap, cur, he, _, hh, _⟩
  · subst h0
    exact .inl rfl
  · right
    subst he
    intro h1
    rcases hk.2 with ⟨h0, _⟩ | ⟨g, cap', cur', he', _, hh', _⟩
    · subst h0
      simp [Value.ownBlock] at h1
    · subst he'
      have : b = g := by simpa [Value.ownBlock] using h1
      subst this
      rw [hh] at hh'
      injection hh' with hh'
      injection hh' with _ ht
      exact absurd ht (by decide)
/-- The packets' quads and data lie in rows of the call's own. -/
def RowsK (w : World) (base : Nat) (zs : List ((Int × Int × List Int × ByteArray × Int × List Int) × Value × Value)) : Prop := ∀ z ∈ zs, Own w base z.2.1 z.1.2.2.1 ∧ Own w base z.2.2 z.1.2.2.2.2.2
theorem RowsK.below {w w' : World} {base : Nat} {zs : List ((Int × Int × List Int × ByteArray × Int × List Int) × Value × Value)} (h : RowsK w base zs) (hb : Below w.heap.size w w') : RowsK w' base zs := fun z hz => ⟨(h z hz).1.below hb, (h z hz).2.below hb⟩
theorem RowsK.more {w : World} {base base' : Nat} {zs : List ((Int × Int × List Int × ByteArray × Int × List Int) × Value × Value)} (h : RowsK w base zs) (hb : base' ≤ base) : RowsK w base' zs := fun z hz => ⟨(h z hz).1.more hb, (h z hz).2.more hb⟩
theorem RowsK.alloc {w : World} {base : Nat} {zs : List ((Int × Int × List Int × ByteArray × Int × List Int) × Value × Value)} (h : RowsK w base zs) (o : Obj) : RowsK (w.alloc o) base zs := fun z hz => ⟨(h z hz).1.alloc o, (h z hz).2.alloc o⟩
theorem RowsK.drew {w : World} {base : Nat} {zs : List ((Int × Int × List Int × ByteArray × Int × List Int) × Value × Value)} (h : RowsK w base zs) : RowsK w.drew base zs := h
theorem RowsK.nil_ (w : World) (base : Nat) : RowsK w base [] := fun z hz => by cases hz
/-- Rows of packets that grow leave the rows of integers as they are. -/
theorem RowsK.keep {w w' : World} {base b0 : Nat} {v : Value} {zs ys : List ((Int × Int × List Int × ByteArray × Int × List Int) × Value × Value)} (h : RowsK w base zs) (hk : OwnK w b0 v ys) (hg : w.grownBy w' v.ownBlock) : RowsK w' base zs := fun z hz => ⟨(h z hz).1.keep hg ((h z hz).1.offK hk), (h z hz).2.keep hg ((h z hz).2.offK hk)⟩
theorem RowsK.snoc {w : World} {base : Nat} {zs : List ((Int × Int × List Int × ByteArray × Int × List Int) × Value × Value)} {x : (Int × Int × List Int × ByteArray × Int × List Int)} {q d : Value} (h : RowsK w base zs) (hq : Own w base q x.2.2.1) (hd : Own w base d x.2.2.2.2.2) : RowsK w base (zs ++ [(x, q, d)]) := fun z hz => by
  rw [List.mem_append, List.mem_singleton] at hz
  rcases hz with hz | rfl
  · exact h z hz
  · exact ⟨hq, hd⟩
theorem RowsK.oneCell {w : World} {base : Nat} {zs : List ((Int × Int × List Int × ByteArray × Int × List Int) × Value × Value)} (h : RowsK w base zs) : ∀ z ∈ zs, z.2.1.oneCell' = true ∧ z.2.2.oneCell' = true := fun z hz => by
  obtain ⟨h1, h2⟩ := h z hz
  obtain ⟨A, c, e1, _⟩ := h1.form
  obtain ⟨B, d, e2, _⟩ := h2.form
  rw [e1, e2]
  exact ⟨rfl, rfl⟩
/-- 'append(s, x...)' of packets, s the call's own. -/
theorem wp_pkts {w : World} {ops : Array Oper} {rest : List Oper} {o : Oper} {a : Act} {Q : Exit → Act → World → Prop} (hgd : o.guard = none) (s x : Operand)
    (ho : o.op = .call { callee := .builtin .append, args := #[s, x], argTypes := #[23, 23] })
    {base : Nat} {v u : Value} {zs ys : List ((Int × Int × List Int × ByteArray × Int × List Int) × Value × Value)} (hs : a.eval s = v) (hx : a.eval x = u) (hown : OwnK w base v zs) (hr : Pkts w 0 u ys) (h1 : ∀ z ∈ ys, z.2.1.oneCell' = true ∧ z.2.2.oneCell' = true)
    (hlen : zs.length + ys.length ≤ 1099511627776) (hbase : base ≤ w.heap.size)
    (h : ∀ v' w', OwnK w' base v' (zs ++ ys) → Below base w w' → w.grownBy w' v.ownBlock → wpList Tryd.prog ops Q rest (a.put o.dst v') w') : wpList Tryd.prog ops Q (o :: rest) a w := by
  obtain ⟨i0, hi, hz0, hz1, hz2⟩ := info_parts Tryd.infoPacket
  refine wpList_plain hgd fun _ hK => wp_append_sl w s x 23 ho base 32 i0 _ 6 88 Tryd.underlying23 hi hz0 hz1 hz2 rfl (by omega) v zs.length (kv zs) hs hown 0 u ys.length (kv ys) hx hr (kv_oneCell' ys h1)
    (by unfold maxLen; omega) (by omega) hbase fun v' w' h2 h3 _ => hK _ _ (h v' w' ?_ (below_ownK hown h3 hbase) h3)
  unfold OwnK
  rw [kv_append, List.length_append]
  exact h2
/-- The same inside a region that draws its order. -/
theorem step_pkts {w : World} {ops : Array Oper} {o : Oper} {a : Act} {K : Act → World → Prop} {Q : Exit → Act → World → Prop} {E : Prop} (hgd : o.guard = none) (s x : Operand)
    (ho : o.op = .call { callee := .builtin .append, args := #[s, x], argTypes := #[23, 23] })
    {base : Nat} {v u : Value} {zs ys : List ((Int × Int × List Int × ByteArray × Int × List Int) × Value × Value)} (hs : a.eval s = v) (hx : a.eval x = u) (hown : OwnK w base v zs) (hr : Pkts w 0 u ys) (h1 : ∀ z ∈ ys, z.2.1.oneCell' = true ∧ z.2.2.oneCell' = true)
    (hlen : zs.length + ys.length ≤ 1099511627776) (hbase : base ≤ w.heap.size)
    (h : ∀ v' w', OwnK w' base v' (zs ++ ys) → Below base w w' → w.grownBy w' v.ownBlock → K (a.put o.dst v') w') :
    if Region.wanted o (yielded ops a.tmps) = true then Oper.wp Tryd.prog o a w K Q else E := by
  have hw : Region.wanted o (yielded ops a.tmps) = true := by simp [Region.wanted, hgd]
  rw [if_pos hw]
  obtain ⟨i0, hi, hz0, hz1, hz2⟩ := info_parts Tryd.infoPacket
  refine wp_append_sl w s x 23 ho base 32 i0 _ 6 88 Tryd.underlying23 hi hz0 hz1 hz2 rfl (by omega) v zs.length (kv zs) hs hown 0 u ys.length (kv ys) hx hr (kv_oneCell' ys h1)
    (by unfold maxLen; omega) (by omega) hbase fun v' w' h2 h3 _ => h v' w' ?_ (below_ownK hown h3 hbase) h3
  unfold OwnK
  rw [kv_append, List.length_append]
  exact h2
end Go.Proofs.YtpcflkdeoafpeaaDoor
namespace Go.Proofs.YtpcflkdeoafpeaaDoor
open Go.RowKit

def chunk (s : Nat) (ds : List Int) (i : Nat) : List Int := (ds.drop (i * s)).take s
def cutN (s L : Nat) : Nat := (L + s - 1) / s
def cutFr (n i : Nat) : Int := if i + 1 = n then (i : Int) + 1 + 128 else (i : Int) + 1
/-- The first j fragments, none of them marked. -/
def fragsL (k : Int) (qs : List Int) (nm : ByteArray) (p : Int) (ds : List Int) (s j : Nat) : List (Int × Int × List Int × ByteArray × Int × List Int) := (List.range j).map fun (i : Nat) => ((i : Int) + 1, k, qs, nm, p, chunk s ds i)
def cutL (k : Int) (qs : List Int) (nm : ByteArray) (p : Int) (ds : List Int) (s : Nat) : List (Int × Int × List Int × ByteArray × Int × List Int) :=
  if ds.length ≤ s then [(0, k, qs, nm, p, ds)] else (List.range (cutN s ds.length)).map fun (i : Nat) => (cutFr (cutN s ds.length) i, k, qs, nm, p, chunk s ds i)
def cutOk (k : Int) (qs : List Int) (nm : ByteArray) (p : Int) (ds : List Int) (s : Int) : Bool := adOk k qs nm p && validL ds && inR s 1 40
def cutR (k : Int) (qs : List Int) (nm : ByteArray) (p : Int) (ds : List Int) (s : Int) : List (Int × Int × List Int × ByteArray × Int × List Int) := if cutOk k qs nm p ds s = true then cutL k qs nm p ds s.toNat else []
theorem cutR_not {k : Int} {qs : List Int} {nm : ByteArray} {p : Int} {ds : List Int} {s : Int} (h : cutOk k qs nm p ds s = false) : cutR k qs nm p ds s = [] := by simp [cutR, h]
theorem cutR_ok {k : Int} {qs : List Int} {nm : ByteArray} {p : Int} {ds : List Int} {s : Int} (h : cutOk k qs nm p ds s = true) : cutR k qs nm p ds s = cutL k qs nm p ds s.toNat := by simp [cutR, h]
theorem fragsL_snoc (k : Int) (qs : List Int) (nm : ByteArray) (p : Int) (ds : List Int) (s j : Nat) : fragsL k qs nm p ds s (j + 1) = fragsL k qs nm p ds s j ++ [((j : Int) + 1, k, qs, nm, p, chunk s ds j)] := by
  simp [fragsL, List.range_succ]
theorem fragsL_length (k : Int) (qs : List Int) (nm : ByteArray) (p : Int) (ds : List Int) (s j : Nat) : (fragsL k qs nm p ds s j).length = j := by simp [fragsL]
/-- How many fragments there are. -/
theorem cutN_is {s L j : Nat} (hs : 1 ≤ s) (h1 : L ≤ j * s) (h0 : 1 ≤ j) (h2 : (j - 1) * s < L) : cutN s L = j := by
  unfold cutN
  obtain ⟨i, rfl⟩ : ∃ i, j = i + 1 := ⟨j - 1, by omega⟩
  rw [Nat.add_sub_cancel] at h2
  rw [Nat.add_mul, Nat.one_mul] at h1
  have h3 : i * s = s * i := Nat.mul_comm _ _
  rw [h3] at h1 h2
  refine Nat.div_eq_of_lt_le ?_ ?_
  · rw [Nat.add_mul, Nat.one_mul, h3]
    omega
  · rw [Nat.add_mul, Nat.add_mul, Nat.one_mul, h3]
    omega
/-- The last fragment is marked. -/
theorem pieces_mark {k : Int} {qs : List Int} {nm : ByteArray} {p : Int} {ds : List Int} {s j : Nat} (hn : cutN s ds.length = j + 1) (hl : ¬ ds.length ≤ s) :
    (fragsL k qs nm p ds s (j + 1)).set j ((j : Int) + 1 + 128, k, qs, nm, p, chunk s ds j) = cutL k qs nm p ds s := by
  rw [cutL, if_neg hl, hn]
  apply List.ext_getElem
  · simp [fragsL]
  · intro i h1 h2
    simp [fragsL] at h1
    rw [List.getElem_set]
    by_cases hi : j = i
    · subst hi
      simp [cutFr]
    · rw [if_neg hi]
      simp [fragsL, cutFr]
      omega
theorem map_set_fst {zs : List ((Int × Int × List Int × ByteArray × Int × List Int) × Value × Value)} {j : Nat} {z : ((Int × Int × List Int × ByteArray × Int × List Int) × Value × Value)} {x : (Int × Int × List Int × ByteArray × Int × List Int)} (_h : zs[j]? = some z) : (zs.set j (x, z.2)).map Prod.fst = (zs.map Prod.fst).set j x := by
  rw [List.map_set]

theorem cut_nums {m n L z : Nat} (h : m ≤ L + n) (hL : L ≤ 120) (hn : n ≤ 40) (hz : (z : Int) ≤ 200) : IntKind.i64.wrap ((m : Int) + (n : Int)) = (m : Int) + (n : Int) ∧ IntKind.i64.wrap ((z : Int) + 1) = (z : Int) + 1 :=
  ⟨IntWalk.i64_in _ (by omega), IntWalk.i64_in _ (by omega)⟩
theorem part_is {w : World} {b o c m n j : Nat} {ds : List Int} (hs : Seg w 3 b o (iv ds)) (hm : m = j * n) (hk : m + n ≤ ds.length) (hc : n ≤ c) (hb : c ≤ 9223372036854775807) : Ints w 0 (.slice (some ⟨b, o + m, none⟩) n c) (chunk n ds j) := by
  unfold chunk
  rw [← hm]
  exact (Ints.part hs hk hc hb).zero
theorem part_to {w : World} {b o c m e n j L : Nat} {ds : List Int} (hs : Seg w 3 b o (iv ds)) (hL : ds.length = L) (hc : (ds.drop m).take (e - m) = chunk n ds j) (he : m ≤ e) (hk : e ≤ L) (hb : e - m ≤ c ∧ c ≤ 9223372036854775807) : Ints w 0 (.slice (some ⟨b, o + m, none⟩) (e - m) c) (chunk n ds j) := by
  rw [← hc]
  exact (Ints.part hs (by omega) hb.1 hb.2).zero
theorem last_i {m j n L : Nat} (hm : m = j * n) (hl : ¬ m < L) (hL : n < L) : ∃ i, j = i + 1 := by
  rcases j with _ | i
  · rw [Nat.zero_mul] at hm
    omega
  · exact ⟨i, rfl⟩
theorem round_next {j m n L : Nat} (hm : m = j * n) (hj : j ≤ m) (hn : 1 ≤ n) (hl : m < L) : Hid (m + n = (j + 1) * n) ∧ Hid (j + 1 ≤ m + n) ∧ Hid (1 ≤ j + 1 → (j + 1 - 1) * n < L) := by
  refine ⟨Lib.hid ?_, Lib.hid (by omega), Lib.hid fun _ => ?_⟩
  · rw [Nat.add_mul, Nat.one_mul, hm]
  · rw [Nat.add_sub_cancel, ← hm]
    exact hl
theorem one_oneCell (x : (Int × Int × List Int × ByteArray × Int × List Int)) {A B : Option Addr} {n c m d : Nat} (q : Value) (r : Value) (hq : q = .slice A n c) (hr : r = .slice B m d) : ∀ z ∈ [(x, q, r)], z.2.1.oneCell' = true ∧ z.2.2.oneCell' = true := by
  intro z hz
  rw [List.mem_singleton] at hz
  subst hz hq hr
  exact ⟨rfl, rfl⟩
theorem chunk_is {ds : List Int} {m n j e L : Nat} (hL : ds.length = L) (hm : m = j * n) (he : min (m + n) L = e) (hlt : m < L) : (ds.drop m).take (e - m) = chunk n ds j := by
  unfold chunk
  rw [← hm, List.take_eq_take_iff]
  simp
  omega
/-- The last one's data. -/
theorem last_is {k : Int} {qs : List Int} {nm : ByteArray} {p : Int} {ds : List Int} {n i : Nat} {zs : List ((Int × Int × List Int × ByteArray × Int × List Int) × Value × Value)} {z : (Int × Int × List Int × ByteArray × Int × List Int) × Value × Value} (h : zs.map Prod.fst = fragsL k qs nm p ds n (i + 1)) (hz : zs[i]? = some z) : z.1 = ((i : Int) + 1, k, qs, nm, p, chunk n ds i) := by
  have h1 : (zs.map Prod.fst)[i]? = some z.1 := by rw [List.getElem?_map, hz]; rfl
  rw [h] at h1
  simp [fragsL] at h1
  exact h1.symm
/-- A packet's number is stored. -/
theorem OwnK.mark {w : World} {base b c i : Nat} {zs : List ((Int × Int × List Int × ByteArray × Int × List Int) × Value × Value)} {z : (Int × Int × List Int × ByteArray × Int × List Int) × Value × Value} (h : OwnK w base (.slice (some ⟨b, 0, none⟩) zs.length c) zs) (hz : zs[i]? = some z) (f : Int) :
    OwnK (w.setCell ⟨b, i * 6, none⟩ (.int .i64 f)) base (.slice (some ⟨b, 0, none⟩) zs.length c) (zs.set i ((f, z.1.2), z.2)) := by
  have h1 := (World.ownsRow.stored h (i * 6) (.int .i64 f)).1
  unfold OwnK
  rw [List.length_set, ← pk_set0 zs i z f hz]
  exact h1
theorem OwnK.more_ {w : World} {base base' : Nat} {v : Value} {zs : List ((Int × Int × List Int × ByteArray × Int × List Int) × Value × Value)} (h : OwnK w base v zs) (hb : base' ≤ base) : OwnK w base' v zs := by
  refine ⟨h.1, ?_⟩
  rcases h.2 with h0 | ⟨g, cap, cur, h1, h2, h3⟩
  · exact .inl h0
  · exact .inr ⟨g, cap, cur, h1, Nat.le_trans hb h2, h3⟩
theorem Own.farSeg {w : World} {base b o j : Nat} {v u : Value} {zs : List Int} {xs : List Value} (h : Own w base v zs) (hs : Seg w 32 b o xs) : Own (w.setCell ⟨b, j, none⟩ u) base v zs := by
  refine h.farN ?_ _
  obtain ⟨cur, hc, _⟩ := hs
  rcases h.2 with ⟨h0, _⟩ | ⟨g, cap, cur', he, _, hh, _⟩
  · subst h0
    simp [Value.ownBlock]
  · subst he
    intro h1
    have : g = b := by simpa [Value.ownBlock] using h1
    subst this
    rw [hc] at hh
    injection hh with hh
    injection hh with _ ht
    exact absurd ht (by decide)
theorem RowsK.mark {w : World} {base b i : Nat} {zs : List ((Int × Int × List Int × ByteArray × Int × List Int) × Value × Value)} {z : (Int × Int × List Int × ByteArray × Int × List Int) × Value × Value} (h : RowsK w base zs) (hs : Seg w 32 b 0 (kv zs)) (hz : zs[i]? = some z) (f : Int) :
    RowsK (w.setCell ⟨b, i * 6, none⟩ (.int .i64 f)) base (zs.set i ((f, z.1.2), z.2)) := by
  intro y hy
  rcases List.mem_or_eq_of_mem_set hy with hy | rfl
  · exact ⟨(h y hy).1.farSeg hs, (h y hy).2.farSeg hs⟩
  · have := h z (List.mem_of_getElem? hz)
    exact ⟨this.1.farSeg hs, this.2.farSeg hs⟩
/-- The packets' quads and data lie apart from one another. -/
def ApartK (zs : List ((Int × Int × List Int × ByteArray × Int × List Int) × Value × Value)) : Prop := (zs.flatMap fun z => [z.2.1, z.2.2]).Pairwise fun u v => u.ownBlock = none ∨ u.ownBlock ≠ v.ownBlock
theorem ApartK.nil_ : ApartK [] := List.Pairwise.nil
theorem ApartK.one {x : (Int × Int × List Int × ByteArray × Int × List Int)} {q d : Value} (h : q.ownBlock = none ∨ q.ownBlock ≠ d.ownBlock) : ApartK [(x, q, d)] := by
  unfold ApartK
  simp
  exact h
theorem ApartK.snoc {zs : List ((Int × Int × List Int × ByteArray × Int × List Int) × Value × Value)} {x : (Int × Int × List Int × ByteArray × Int × List Int)} {q d : Value} (h : ApartK zs)
    (hq : ∀ z ∈ zs, (z.2.1.ownBlock = none ∨ z.2.1.ownBlock ≠ q.ownBlock) ∧ (z.2.2.ownBlock = none ∨ z.2.2.ownBlock ≠ q.ownBlock))
    (hd : ∀ z ∈ zs, (z.2.1.ownBlock = none ∨ z.2.1.ownBlock ≠ d.ownBlock) ∧ (z.2.2.ownBlock = none ∨ z.2.2.ownBlock ≠ d.ownBlock))
    (hqd : q.ownBlock = none ∨ q.ownBlock ≠ d.ownBlock) : ApartK (zs ++ [(x, q, d)]) := by
  unfold ApartK at *
  rw [List.flatMap_append, List.pairwise_append]
  refine ⟨h, by simpa using hqd, fun u hu v hv => ?_⟩
  obtain ⟨z, hz, hu⟩ := List.mem_flatMap.1 hu
  simp at hu hv
  rcases hv with rfl | rfl <;> rcases hu with rfl | rfl
  · exact (hq z hz).1
  · exact (hq z hz).2
  · exact (hd z hz).1
  · exact (hd z hz).2
/-- A row that was made later lies apart from them all. -/
theorem RowsK.ahead {w w' : World} {base : Nat} {zs : List ((Int × Int × List Int × ByteArray × Int × List Int) × Value × Value)} {v : Value} {vs : List Int} (h : RowsK w base zs) (hv : Own w' w.heap.size v vs) :
    ∀ z ∈ zs, (z.2.1.ownBlock = none ∨ z.2.1.ownBlock ≠ v.ownBlock) ∧ (z.2.2.ownBlock = none ∨ z.2.2.ownBlock ≠ v.ownBlock) := fun z hz => ⟨(h z hz).1.ahead hv, (h z hz).2.ahead hv⟩
theorem ApartK.set_ {zs : List ((Int × Int × List Int × ByteArray × Int × List Int) × Value × Value)} {i : Nat} {z : (Int × Int × List Int × ByteArray × Int × List Int) × Value × Value} (h : ApartK zs) (hz : zs[i]? = some z) (x : (Int × Int × List Int × ByteArray × Int × List Int)) : ApartK (zs.set i (x, z.2)) := by
  have e : (zs.set i (x, z.2)).flatMap (fun z => [z.2.1, z.2.2]) = zs.flatMap (fun z => [z.2.1, z.2.2]) := by
    clear h
    induction zs generalizing i with
    | nil => rfl
    | cons y r ih =>
      cases i with
      | zero =>
        have : y = z := by simpa using hz
        subst this
        rfl
      | succ i =>
        have hz' : r[i]? = some z := by simpa using hz
        rw [List.set_cons_succ, List.flatMap_cons, List.flatMap_cons, ih hz']
  unfold ApartK
  rw [e]
  exact h
/-- A list of packets that may fail: the slice, its rows, and whether it is there. -/
def GaveK (w : World) (xs : List (Int × Int × List Int × ByteArray × Int × List Int)) (ok : Bool) (e : Ending) (w' : World) : Prop :=
  ∃ v zs, e = .returned (.tuple #[v, .bool ok]) ∧ zs.map Prod.fst = xs ∧ OwnK w' w.heap.size v zs ∧ RowsK w' w.heap.size zs ∧ ApartK zs ∧ Below w.heap.size w w'
end Go.Proofs.YtpcflkdeoafpeaaDoor
namespace Go.Proofs.YtpcflkdeoafpeaaDoor
open Go.RowKit

/-- How many fragments there are, and the number of each. -/
def cutM (s L : Nat) : Nat := if L ≤ s then 1 else cutN s L
def cutF (s L i : Nat) : Int := if L ≤ s then 0 else cutFr (cutN s L) i
theorem cutL_all (k : Int) (qs : List Int) (nm : ByteArray) (p : Int) (ds : List Int) (s : Nat) :
    cutL k qs nm p ds s = (List.range (cutM s ds.length)).map fun (i : Nat) => (cutF s ds.length i, k, qs, nm, p, chunk s ds i) := by
  unfold cutL cutM cutF
  by_cases h : ds.length ≤ s
  · simp [h, chunk, List.take_of_length_le]
  · simp [h]
theorem cutL_length (k : Int) (qs : List Int) (nm : ByteArray) (p : Int) (ds : List Int) (s : Nat) : (cutL k qs nm p ds s).length = cutM s ds.length := by
  rw [cutL_all]
  simp
theorem cutN_le {s L : Nat} (hs : 1 ≤ s) : cutN s L ≤ L := by
  unfold cutN
  rcases L with _ | L
  · rw [Nat.div_eq_of_lt (by omega)]
    exact Nat.le_refl _
  · refine Nat.div_le_of_le_mul ?_
    have : L ≤ s * L := Nat.le_mul_of_pos_left L hs
    rw [Nat.mul_add, Nat.mul_one]
    omega
theorem cutN_two {s L : Nat} (hs : 1 ≤ s) (h : s < L) : 2 ≤ cutN s L := by
  unfold cutN
  rw [Nat.le_div_iff_mul_le (by omega)]
  omega
theorem cutM_one {s L : Nat} (hs : 1 ≤ s) : cutM s L = 1 ↔ L ≤ s := by
  unfold cutM
  constructor
  · intro h
    split at h
    · assumption
    · have := cutN_two hs (show s < L by omega)
      omega
  · intro h
    rw [if_pos h]
theorem cutM_pos {s L : Nat} (hs : 1 ≤ s) : 1 ≤ cutM s L := by
  unfold cutM
  split
  · omega
  · have := cutN_two hs (show s < L by omega)
    omega
theorem cutM_le {s L : Nat} (hs : 1 ≤ s) : cutM s L ≤ L + 1 := by
  unfold cutM
  split
  · omega
  · have := cutN_le (L := L) hs
    omega
theorem cutN_1 (L : Nat) : cutN 1 L = L := by simp [cutN]
/-- The data ends with the last fragment. -/
theorem cutN_end {s L : Nat} (hs : 1 ≤ s) : L ≤ cutN s L * s ∧ ∀ i, i < cutN s L → i * s < L := by
  have h := Nat.div_add_mod (L + s - 1) s
  have h2 := Nat.mod_lt (L + s - 1) (show 0 < s by omega)
  have h3 : cutN s L * s = s * ((L + s - 1) / s) := Nat.mul_comm _ _
  refine ⟨by omega, fun i hi => ?_⟩
  have h4 : (i + 1) * s ≤ cutN s L * s := Nat.mul_le_mul_right s hi
  rw [Nat.add_mul, Nat.one_mul] at h4
  omega
theorem cutM_end {s L : Nat} (hs : 1 ≤ s) : L ≤ cutM s L * s := by
  unfold cutM
  split
  · omega
  · exact (cutN_end hs).1
theorem chunk_length (s : Nat) (ds : List Int) (i : Nat) : (chunk s ds i).length = min s (ds.length - i * s) := by simp [chunk]
theorem chunk_valid {s : Nat} {ds : List Int} (h : validL ds = true) (i : Nat) : validL (chunk s ds i) = true := by
  refine validL_of ?_ fun x hx => bytes_of_valid h x (List.mem_of_mem_drop (List.mem_of_mem_take hx))
  have := validL_len h
  rw [chunk_length]
  omega
/-- A fragment. -/
theorem cut_at {k : Int} {qs : List Int} {nm : ByteArray} {p : Int} {ds : List Int} {s i : Nat} {zs : List ((Int × Int × List Int × ByteArray × Int × List Int) × Value × Value)} {z : (Int × Int × List Int × ByteArray × Int × List Int) × Value × Value}
    (h : zs.map Prod.fst = cutL k qs nm p ds s) (hz : zs[i]? = some z) : z.1 = (cutF s ds.length i, k, qs, nm, p, chunk s ds i) := by
  have h1 : (zs.map Prod.fst)[i]? = some z.1 := by rw [List.getElem?_map, hz]; rfl
  rw [h, cutL_all, List.getElem?_map] at h1
  obtain ⟨j, hj, h2⟩ := Option.map_eq_some_iff.1 h1
  obtain ⟨h3, h4⟩ := List.getElem?_eq_some_iff.1 hj
  rw [List.getElem_range] at h4
  subst h4
  exact h2.symm
theorem cut_len {k : Int} {qs : List Int} {nm : ByteArray} {p : Int} {ds : List Int} {s : Nat} {zs : List ((Int × Int × List Int × ByteArray × Int × List Int) × Value × Value)} (h : zs.map Prod.fst = cutL k qs nm p ds s) : zs.length = cutM s ds.length := by
  have h1 := congrArg List.length h
  rwa [List.length_map, cutL_length] at h1
theorem cutFr_ok {s L i : Nat} (hs : 1 ≤ s) (hL : L ≤ 120) (hi : i < cutM s L) : fragOk (cutF s L i) = true := by
  unfold cutF
  split
  · rfl
  · next h =>
    have h1 := cutN_le (L := L) hs
    unfold cutM at hi
    rw [if_neg h] at hi
    unfold cutFr fragOk inR
    split <;> simp <;> omega
/-- Each fragment is a packet. -/
theorem cut_pk {k : Int} {qs : List Int} {nm : ByteArray} {p : Int} {ds : List Int} {s i : Nat} (h : cutOk k qs nm p ds (s : Int) = true) (hi : i < cutM s ds.length) : pkOk (cutF s ds.length i) k qs nm p (chunk s ds i) = true := by
  unfold cutOk at h
  simp only [Bool.and_eq_true] at h
  obtain ⟨⟨h1, h2⟩, h3⟩ := h
  have h4 : 1 ≤ s ∧ s ≤ 40 := by
    simp [inR] at h3
    omega
  rw [pkOk, h1, cutFr_ok h4.1 (validL_len h2) hi, dataOk, chunk_valid h2]
  have : (chunk s ds i).length ≤ 40 := by
    rw [chunk_length]
    omega
  simp [this]
end Go.Proofs.YtpcflkdeoafpeaaDoor

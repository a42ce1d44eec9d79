/-
  Rows of texts that a call makes and appends to. Conditions: none.
-/
import Derived.Test.YtpcflkdeoafpeaaDoorBlk
import Derived.Test.YtpcflkdeoafpeaaDoorStr
namespace Go.Proofs.YtpcflkdeoafpeaaDoor
open Go.RowKit

theorem sv_length (ss : List ByteArray) : (sv ss).length = ss.length := by simp [sv]
theorem sv_append (xs ys : List ByteArray) : sv (xs ++ ys) = sv xs ++ sv ys := by simp [sv]
theorem sv_get {ss : List ByteArray} {j : Nat} {s : ByteArray} (h : ss[j]? = some s) : (sv ss)[j]? = some (.string s) := by rw [sv, List.getElem?_map, h]; rfl
theorem sv_oneCell (ss : List ByteArray) : ∀ x ∈ sv ss, x.oneCell' = true := by
  intro x hx
  unfold sv at hx
  rw [List.mem_map] at hx
  obtain ⟨s, _, rfl⟩ := hx
  rfl
theorem Tryd.infoString : (Tryd.prog.info? 9).map (fun i => (i.zero, i.size, i.bytes)) = some (some (.string ByteArray.empty), 1, 16) := by kernel_rfl
/-- v is a slice of texts that the call owns. -/
def OwnS (w : World) (base : Nat) (v : Value) (ss : List ByteArray) : Prop := w.ownsRow base 9 1 v ss.length (sv ss)
theorem OwnS.alloc {w : World} {base : Nat} {v : Value} {ss : List ByteArray} (h : OwnS w base v ss) (o : Obj) : OwnS (w.alloc o) base v ss := World.ownsRow.alloc h o
theorem OwnS.drew {w : World} {base : Nat} {v : Value} {ss : List ByteArray} (h : OwnS w base v ss) : OwnS w.drew base v ss := h
theorem OwnS.drewN {w : World} {base : Nat} {v : Value} {ss : List ByteArray} (h : OwnS w base v ss) (n : Nat) : OwnS (w.drewN n) base v ss := h
theorem OwnS.lit (w : World) (ss : List ByteArray) (base : Nat) (hb : base ≤ w.heap.size) (hm : ss.length ≤ 9223372036854775807) :
    OwnS (w.alloc (.cells (sv ss).toArray 9)) base (.slice (some ⟨w.heap.size, 0, none⟩) ss.length ss.length) ss := by
  have h := World.ownsRow_lit (base := base) (e := 9) (size := 1) w (sv ss).toArray ss.length hb (by unfold maxLen; omega) (by simp [sv_length])
  simpa [OwnS] using h
theorem OwnS.form {w : World} {base : Nat} {v : Value} {ss : List ByteArray} (h : OwnS w base v ss) : ∃ A c, v = .slice A ss.length c ∧ c ≤ 9223372036854775807 ∧ ss.length ≤ c ∧ (ss = [] ∨ ∃ b, A = some ⟨b, 0, none⟩ ∧ base ≤ b ∧ b < w.heap.size ∧ Seg w 9 b 0 (sv ss)) := by
  rcases h.2 with ⟨rfl, h0⟩ | ⟨g, cap, cur, rfl, hb, hh, hnc, hcm, _, ht⟩
  · exact ⟨none, 0, by rw [h0], by omega, by omega, .inl (List.eq_nil_of_length_eq_zero h0)⟩
  · refine ⟨_, cap, rfl, by unfold maxLen at hcm; omega, hnc, .inr ⟨g, rfl, hb, (Array.getElem?_eq_some_iff.1 hh).1, cur, hh, fun j u hu => ?_⟩⟩
    rw [← ht, List.getElem?_take] at hu
    split at hu
    · simpa using hu
    · cases hu
theorem below_ownS {base : Nat} {w w' : World} {v : Value} {ss : List ByteArray} (h : OwnS w base v ss) (hg : w.grownBy w' v.ownBlock) (hb : base ≤ w.heap.size) : Below base w w' :=
  (Below.refl base w).grown hg hb fun k hk => (World.ownsRow.lt h k hk).1
/-- v reads as texts. -/
def Strs (w : World) (lo : Nat) (v : Value) (ss : List ByteArray) : Prop := Sl w 9 1 lo v ss.length (sv ss)
theorem OwnS.strs {w : World} {base : Nat} {v : Value} {ss : List ByteArray} (h : OwnS w base v ss) : Strs w base v ss := Sl.of_own h
theorem litS1 (w : World) (y : ByteArray) : Strs (w.alloc (.cells #[.string y] 9)) 0 (.slice (some ⟨w.heap.size, 0, none⟩) 1 1) [y] := (OwnS.lit w [y] 0 (Nat.zero_le _) (by simp)).strs
/-- 'append(s, x...)' of texts, s the call's own. -/
theorem wp_strs {w : World} {ops : Array Oper} {rest : List Oper} {o : Oper} {a : Act} {Q : Exit → Act → World → Prop} (hgd : o.guard = none) (s x : Operand)
    (ho : o.op = .call { callee := .builtin .append, args := #[s, x], argTypes := #[71, 71] })
    {base : Nat} {v u : Value} {zs ys : List ByteArray} (hs : a.eval s = v) (hx : a.eval x = u) (hown : OwnS w base v zs) (hr : Strs w 0 u ys)
    (hlen : zs.length + ys.length ≤ 1099511627776) (hbase : base ≤ w.heap.size)
    (h : ∀ v' w', OwnS w' base v' (zs ++ ys) → Below base w w' → wpList Tryd.prog ops Q rest (a.put o.dst v') w') : wpList Tryd.prog ops Q (o :: rest) a w := by
  obtain ⟨i0, hi, hz0, hz1, hz2⟩ := info_parts Tryd.infoString
  refine wpList_plain hgd fun _ hK => wp_append_sl w s x 71 ho base 9 i0 _ 1 16 Tryd.underlying71 hi hz0 hz1 hz2 rfl (by omega) v zs.length (sv zs) hs hown 0 u ys.length (sv ys) hx hr (sv_oneCell ys)
    (by unfold maxLen; omega) (by omega) hbase fun v' w' h2 h3 _ => hK _ _ (h v' w' ?_ (below_ownS hown h3 hbase))
  unfold OwnS
  rw [sv_append, List.length_append]
  exact h2
end Go.Proofs.YtpcflkdeoafpeaaDoor

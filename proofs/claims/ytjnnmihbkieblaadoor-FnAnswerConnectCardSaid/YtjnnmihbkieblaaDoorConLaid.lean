/-
  What asks for a tunnel, by its one address; the library's error variables out of a row's laid condition. Conditions: none.
-/
import Derived.Test.YtjnnmihbkieblaaDoorConFromS
import Derived.Test.YtjnnmihbkieblaaDoorLaid
namespace Go.Proofs.YtjnnmihbkieblaaDoor
open Go.RowKit

theorem con_inj {s : ByteArray} {k k' : Int} {qs qs' : List Int} {nm nm' : ByteArray} {p p' : Int} (h : IsCon s k qs nm p) (h' : IsCon s k' qs' nm' p') : k' = k ∧ qs' = qs ∧ nm' = nm ∧ p' = p := by
  obtain ⟨u, hu⟩ := con_data h.2
  exact ad_inj ⟨h.1, rfl⟩ (con_text hu (adT_blank h.1) h')
theorem con_self {k : Int} {qs : List Int} {nm : ByteArray} {p : Int} (h : adOk k qs nm p = true) (t : ByteArray) : IsCon (conT (adT k qs nm p) ++ t) k qs nm p := ⟨h, beg_self_append _ _⟩
theorem con_self0 {k : Int} {qs : List Int} {nm : ByteArray} {p : Int} (h : adOk k qs nm p = true) : IsCon (conT (adT k qs nm p)) k qs nm p := ⟨h, by rw [beg_iff]; exact List.prefix_refl _⟩
/-- A part of what asks does not ask. -/
theorem con_part {k : Int} {qs : List Int} {nm : ByteArray} {p : Int} (h : adOk k qs nm p = true) {n : Nat} (hn : n < (conT (adT k qs nm p)).size) : NoCon ((conT (adT k qs nm p)).extract 0 n) := by
  intro k' qs' nm' p' h1
  have hz : ((conT (adT k qs nm p)).extract 0 n).size = n := by rw [ByteArray.size_extract]; omega
  have h2 : IsCon (conT (adT k qs nm p)) k' qs' nm' p' := by
    refine ⟨h1.1, ?_⟩
    have h3 := h1.2
    rw [beg_iff] at h3 ⊢
    refine h3.trans ?_
    rw [ByteArray.data_extract, Array.toList_extract, List.extract_eq_take_drop, List.drop_zero]
    exact List.take_prefix _ _
  obtain ⟨rfl, rfl, rfl, rfl⟩ := con_inj (con_self0 h) h2
  have := beg_le h1.2
  omega
def ConYes (C : ByteArray) (k : Int) (qs : List Int) (nm : ByteArray) (p : Int) (w : World) (e : Ending) (w' : World) : Prop :=
  ∃ q, e = .returned (.tuple #[.agg #[.int .i64 k, q, .string nm, .int .i64 p], .int .i64 (C.size : Nat), .bool true]) ∧ Own w' w.heap.size q qs ∧ Below w.heap.size w w'
def ConNo (w : World) (e : Ending) (w' : World) : Prop := e = .returned (.tuple #[.agg #[.int .i64 0, .slice none 0 0, .string .empty, .int .i64 0], .int .i64 0, .bool false]) ∧ Below w.heap.size w w'
theorem ConGave.yes {s C : ByteArray} {w w' : World} {e : Ending} {k : Int} {qs : List Int} {nm : ByteArray} {p : Int} (hg : ConGave s w e w') (h : IsCon s k qs nm p) (hC : conT (adT k qs nm p) = C) : ConYes C k qs nm p w e w' := by
  rcases hg with ⟨k', q, qs', nm', p', rfl, h1, h2, h3⟩ | ⟨_, h1, _⟩
  · obtain ⟨rfl, rfl, rfl, rfl⟩ := con_inj h h1
    exact ⟨q, by rw [hC], h2, h3⟩
  · exact absurd h (h1 k qs nm p)
theorem ConGave.no {s : ByteArray} {w w' : World} {e : Ending} (hg : ConGave s w e w') (h : NoCon s) : ConNo w e w' := by
  rcases hg with ⟨k', q, qs', nm', p', rfl, h1, h2, h3⟩ | ⟨h1, _, h3⟩
  · exact absurd h1 (h k' qs' nm' p')
  · exact ⟨h1, h3⟩
theorem impl_Con_yes (s C : ByteArray) (k : Int) (qs : List Int) (nm : ByteArray) (p : Int) (w : World) (h : IsCon s k qs nm p) (hC : conT (adT k qs nm p) = C) (hs : s.size < 4294967281) (ht : Tabs w) (he : Errs w) : Calls Tryd.prog 7 #[.string s] w fun e w' => ConYes C k qs nm p w e w' :=
  (impl_ConnectFrom_any s w hs ht he).mono fun _ _ hg => hg.yes h hC
theorem impl_Con_no (s : ByteArray) (w : World) (h : NoCon s) (hs : s.size < 4294967281) (ht : Tabs w) (he : Errs w) : Calls Tryd.prog 7 #[.string s] w fun e w' => ConNo w e w' :=
  (impl_ConnectFrom_any s w hs ht he).mono fun _ _ hg => hg.no h
theorem con_either (s : ByteArray) : (∃ k qs nm p, IsCon s k qs nm p) ∨ NoCon s := by
  by_cases h : ∃ k qs nm p, IsCon s k qs nm p
  · exact .inl h
  · exact .inr fun k qs nm p h1 => h ⟨k, qs, nm, p, h1⟩

theorem Tryd.star_ : "*" ++ "errors.errorString" = "*errors.errorString" := by decide
theorem Tryd.rowErr (u : TypeId) (h : Tryd.prog.typeName? 3 u = some "*errors.errorString") : u = 108 :=
  typeName_ptr_named (nm := "errors.errorString") (by rw [Tryd.star_]; kernel_rfl) (by kernel_rfl) (by decide) u (by rw [Tryd.star_]; exact h)
theorem Errs.of_laid {W : World} {a b p q : String × DataW Unit} {t1 t2 : List UInt8} {rest : List (String × DataW Unit)} (L : List (String × DataW Unit)) (hl : L = a :: b :: p :: q :: ("strconv.ErrRange", .iface "*errors.errorString" (.ptr (.agg [.lit (.string t1)]))) :: ("strconv.ErrSyntax", .iface "*errors.errorString" (.ptr (.agg [.lit (.string t2)]))) :: rest) (h : laidMet Tryd.prog L W) : Errs W := by
  subst hl
  obtain ⟨a1, s1, hv1, _⟩ := laid_sentinel (g := 4) (ti := 56) (tp := 108) (te := 110) (ts := 9) h.tail.tail.tail.tail (by kernel_rfl) (by kernel_rfl) Tryd.underlying56 Tryd.rowErr Tryd.underlying108 Tryd.underlying110 rfl rfl Tryd.underlying9 (by kernel_rfl) (by kernel_rfl)
  obtain ⟨a2, s2, hv2, _⟩ := laid_sentinel (g := 3) (ti := 56) (tp := 108) (te := 110) (ts := 9) h.tail.tail.tail.tail.tail (by kernel_rfl) (by kernel_rfl) Tryd.underlying56 Tryd.rowErr Tryd.underlying108 Tryd.underlying110 rfl rfl Tryd.underlying9 (by kernel_rfl) (by kernel_rfl)
  have c1 := World.var?_cell (g := 4) (by kernel_rfl) hv1 0
  have c2 := World.var?_cell (g := 3) (by kernel_rfl) hv2 0
  exact ⟨⟨_, _, by simpa using c2⟩, ⟨_, _, by simpa using c1⟩⟩
end Go.Proofs.YtjnnmihbkieblaaDoor

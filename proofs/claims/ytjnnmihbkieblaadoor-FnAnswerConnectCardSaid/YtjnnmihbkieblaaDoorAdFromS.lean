/-
  An address read from its text: AddressFrom of the reference. Conditions: the text is shorter than 2^32 - 15.
-/
import Derived.Test.YtjnnmihbkieblaaDoorAdFrom
namespace Go.Proofs.YtjnnmihbkieblaaDoor
open Go.RowKit Go.Sort

theorem pieces_two {k : Int} {qs : List Int} {nm : ByteArray} {p : Int} (h : adOk k qs nm p = true) : (piecesB 58 (adT k qs nm p)).length = 2 := by
  unfold piecesB
  rw [adT_data, piecesL_hit (host_no h (.inr (by decide))), piecesL_none (dec_no (.inr (by decide)))]
  rfl
theorem noAd_len {s : ByteArray} (h : (piecesB 58 s).length ≠ 2) : NoAd s := by
  rintro k qs nm p ⟨h1, rfl⟩
  exact h (pieces_two h1)
theorem two_parts {s a b : ByteArray} (h : piecesB 58 s = [a, b]) : s.data.toList = a.data.toList ++ 58 :: b.data.toList ∧ (58 : UInt8) ∉ a.data.toList := by
  unfold piecesB at h
  have h1 := glue_pieces 58 s.data.toList
  have h2 := fun p (hp : p ∈ piecesL 58 s.data.toList) => pieces_no hp
  match hp : piecesL 58 s.data.toList with
  | [x, y] =>
    rw [hp] at h h1 h2
    simp only [List.map_cons, List.map_nil, List.cons.injEq, and_true] at h
    obtain ⟨rfl, rfl⟩ := h
    refine ⟨by rw [← h1]; simp [glue, bs], ?_⟩
    have := h2 x (by simp)
    simpa [bs] using this
  | [] => rw [hp] at h; simp at h
  | [_] => rw [hp] at h; simp at h
  | _ :: _ :: _ :: _ => rw [hp] at h; simp at h
theorem port_l2 {s a b : ByteArray} {k : Int} {qs : List Int} {nm : ByteArray} {p : Int} (h : IsAd s k qs nm p) (hs : s.data.toList = a.data.toList ++ 58 :: b.data.toList) (ha : (58 : UInt8) ∉ a.data.toList) : p = l2N b := by
  have h1 := (ad_split h hs ha).2
  have h2 := adOk_port h.1
  rw [← h1, l2N_dec (by omega)]
  omega
/-- The one address that the text may have. -/
theorem one_ad {s a b : ByteArray} {k : Int} {qs : List Int} {nm : ByteArray} (hs : s.data.toList = a.data.toList ++ 58 :: b.data.toList) (ha : (58 : UInt8) ∉ a.data.toList) (hx : (k = 1 ∧ quadOk qs = true ∧ quadB qs = a ∧ nm = ⟨#[]⟩) ∨ (k = 3 ∧ qs = [] ∧ nm = a ∧ NoQuad a)) {k' : Int} {qs' : List Int} {nm' : ByteArray} {p' : Int} (h : IsAd s k' qs' nm' p') : k' = k ∧ qs' = qs ∧ nm' = nm ∧ p' = l2N b := by
  have hp := port_l2 h hs ha
  rcases hx with ⟨rfl, h1, h2, rfl⟩ | ⟨rfl, rfl, rfl, h4⟩
  · obtain ⟨e1, e2, e3⟩ := ad_quad hs ha h1 h2 h
    exact ⟨e1, e2, e3, hp⟩
  · obtain ⟨e1, e2, e3⟩ := ad_name hs ha h4 h
    exact ⟨e1, e2, e3, hp⟩
def OneAd (s : ByteArray) (k : Int) (qs : List Int) (nm : ByteArray) (p : Int) : Prop := ∀ k' qs' nm' p', IsAd s k' qs' nm' p' → k' = k ∧ qs' = qs ∧ nm' = nm ∧ p' = p
theorem noAd_one {s : ByteArray} {k p : Int} {qs : List Int} {nm : ByteArray} (h : OneAd s k qs nm p) (hn : ¬ IsAd s k qs nm p) : NoAd s := by
  intro k' qs' nm' p' h1
  obtain ⟨rfl, rfl, rfl, rfl⟩ := h k' qs' nm' p' h1
  exact hn h1

/-- What stands behind the region: the address's block, the result's block, the quad. -/
def Five (w W : World) (G : Nat) (cs : Array Value) (v : Value) (qs : List Int) : Prop := Blk W G 27 cs ∧ Blk W w.heap.size 27 #[.int .i64 0, .slice none 0 0, .string .empty, .int .i64 0] ∧ Own W (w.heap.size + 1) v qs ∧ Below w.heap.size w W ∧ G ≠ w.heap.size
end Go.Proofs.YtjnnmihbkieblaaDoor

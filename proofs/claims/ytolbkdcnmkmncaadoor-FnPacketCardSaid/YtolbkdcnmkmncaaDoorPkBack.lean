/-
  The program's PacketFrom at the bytes of a packet. Conditions: the slice reads as those bytes.
-/
import Derived.Test.YtolbkdcnmkmncaaDoorPkFrom
import Derived.Test.YtolbkdcnmkmncaaDoorPkBytes
namespace Go.Proofs.YtolbkdcnmkmncaaDoor
open Go.RowKit

theorem pk_len {f k : Int} {qs : List Int} {nm : ByteArray} {p : Int} {ds : List Int} (h : pkOk f k qs nm p ds = true) : 3 ≤ (pkL f k qs nm p ds).length ∧ (pkL f k qs nm p ds).length ≤ 67 := by
  rw [pkL_ok h]
  exact ⟨by simp [pkB], pkB_length h⟩
theorem pkB_end (f k : Int) (qs : List Int) (nm : ByteArray) (p : Int) (ds : List Int) : 3 + (adB k qs nm p).length ≤ (pkB f k qs nm p ds).length ∧ (pkB f k qs nm p ds).drop (3 + (adB k qs nm p).length) = ds := by
  constructor
  · simp [pkB]
    omega
  · rw [← List.drop_drop]
    simp [pkB]
/-- PacketFrom returned such a packet. -/
def PpGave (u : Value) (W : World) (f k : Int) (qs : List Int) (nm : ByteArray) (p : Int) (ds : List Int) (b : Bool) : Prop :=
  Calls Tryd.prog 40 #[u] W fun e w' => ∃ q d, e = .returned (.tuple #[.agg #[.int .i64 f, .int .i64 k, q, .string nm, .int .i64 p, d], .bool b]) ∧ Own w' W.heap.size q qs ∧ Own w' W.heap.size d ds ∧ Below W.heap.size W w'
theorem pk_gave {f k : Int} {qs : List Int} {nm : ByteArray} {p : Int} {ds : List Int} (h : pkOk f k qs nm p ds = true) (u : Value) (W : World) (hu : Ints W 0 u (pkL f k qs nm p ds)) : PpGave u W f k qs nm p ds true := by
  rw [pkL_ok h] at hu
  obtain ⟨h0, h1, h2, h3, h4, h5, h6⟩ := pk_back h
  refine (impl_PacketFrom_any u _ W hu).mono ?_
  rintro e w' ⟨q, d, rfl, o, p', _, b⟩
  obtain ⟨t1, t2, t3⟩ := ppT_yes h0
  rw [t2, h3] at o
  rw [t3, h6] at p'
  exact ⟨q, d, by rw [t1, h1, h2, h4, h5], o, p', b⟩
end Go.Proofs.YtolbkdcnmkmncaaDoor

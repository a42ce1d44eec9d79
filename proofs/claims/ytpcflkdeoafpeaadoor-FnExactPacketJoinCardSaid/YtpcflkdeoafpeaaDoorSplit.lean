/-
  strings.Split at a separator of one byte: the pieces of the text, in memory of their own. Conditions: the text has fewer than 2^32 - 15 bytes.
-/
import Derived.Test.YtpcflkdeoafpeaaDoorStr
import Derived.Test.YtpcflkdeoafpeaaDoorBlk
import Derived.Laws.Strings3
import Derived.Deep.OwnRows
import Derived.Deep.LoopGhost
import Derived.Laws.MakeOwn
namespace Go.Proofs.YtpcflkdeoafpeaaDoor
open Go.RowKit

set_option maxHeartbeats 1000000 in
set_option maxRecDepth 100000 in
theorem Count_any (s : ByteArray) (c : UInt8) (w : World) :
    Calls Tryd.prog 73 #[.string s, .string ⟨#[c]⟩] w fun e w' => e = .returned (.int .i64 (s.data.toList.count c : Nat)) ∧ w' = w := by
  go_enter Tryd.func73, Tryd.ntmps73
  go_wp2
  rw [run_callFunc_extern Tryd.func85 (by kernel_rfl) (by kernel_rfl) (by kernel_rfl) (e := Extern.BytealgCount.count) (by kernel_rfl), Lib.run_countString]
  simp only [Result.andThen]
  rw [Oper.upon_value]
  go_wp2
  go_ret
  exact ⟨rfl, rfl⟩

set_option maxHeartbeats 2000000 in
set_option maxRecDepth 100000 in
theorem stringslite_Index_any (s : ByteArray) (c : UInt8) (w : World) :
    Calls Tryd.prog 86 #[.string s, .string ⟨#[c]⟩] w fun e w' => e = .returned (.int .i64 (Lib.indexByte s.data.toList c)) ∧ w' = w := by
  go_enter Tryd.func86, Tryd.ntmps86
  go_wp2_with (go_at_call 75; refine (stringslite_IndexByte_any _ _ _).mono ?_; rintro e w' ⟨rfl, rfl⟩)
  · have h : ([c] == s.toList) = true := by assumption
    go_ret
    refine ⟨?_, rfl⟩
    have e : s.data.toList = [c] := by rw [← Lib.toList_data]; exact (beq_iff_eq.1 h).symm
    rw [e]
    simp [Lib.indexByte]
  · go_ret
    exact ⟨by simp; rfl, rfl⟩
theorem Index_one_any (s : ByteArray) (c : UInt8) (w : World) :
    Calls Tryd.prog 74 #[.string s, .string ⟨#[c]⟩] w fun e w' => e = .returned (.int .i64 (Lib.indexByte s.data.toList c)) ∧ w' = w := by
  go_enter Tryd.func74, Tryd.ntmps74
  go_wp2_with (go_at_call 86; refine (stringslite_Index_any _ _ _).mono ?_; rintro e w' ⟨rfl, rfl⟩)
  go_ret
  exact ⟨rfl, rfl⟩

theorem string_info : (Tryd.prog.info? 9).map (fun i => (i.zero, i.size, i.bytes)) = some (some (.string ByteArray.empty), 1, 16) := by kernel_rfl
def sepC (c : UInt8) : ByteArray := ⟨#[c]⟩
theorem sepC_size (c : UInt8) : (sepC c).size = 1 := rfl

set_option maxHeartbeats 4000000 in
set_option maxRecDepth 1000000 in
theorem genSplit_any (s : ByteArray) (c : UInt8) (w : World) (hs : s.size < 4294967281) :
    Calls Tryd.prog 67 #[.string s, .string ⟨#[c]⟩, .int .i64 0, .int .i64 (-1)] w fun e w' =>
      e = .returned (.slice (some ⟨w.heap.size, 0, none⟩) (s.data.toList.count c + 1) (s.data.toList.count c + 1)) ∧ w' = w.alloc (.cells (sv (piecesB c s)).toArray 9) := by
  obtain ⟨cn, hcn⟩ : ∃ cn : Nat, s.data.toList.count c = cn := ⟨_, rfl⟩
  have hC := fun W => Count_any s c W
  rw [hcn] at hC
  have hcl : cn ≤ s.size := by rw [← hcn]; have := List.count_le_length (a := c) (l := s.data.toList); simpa using this
  have HSP : Hid (Lib.splitB ⟨#[c]⟩ 0 cn s = piecesB c s) := Lib.hid (by rw [← hcn]; exact splitB_pieces c s)
  have HLEN : Hid ((piecesB c s).length = cn + 1) := Lib.hid (by rw [piecesB_length, hcn])
  rw [hcn]
  have HC := Lib.hid hC
  have hmk := run_make_row' (P := Tryd.prog) 71 9 (.string ByteArray.empty) 16 Tryd.underlying71 string_info rfl .i64 .i64 (cn + 1) (by omega) (by omega)
  simp only [Int.natCast_add, Int.cast_ofNat_Int] at hmk
  clear hcn hC
  go_enter Tryd.func67, Tryd.ntmps67
  go_wp2_with (go_at_call 73; refine (HC.out _).mono ?_; rintro e w' ⟨rfl, hw⟩; rw [hw])
  clear hmk
  go_loopg [0, 10] cn (fun g s0 s10 wr => ∃ (done : List ByteArray) (rest : ByteArray), s0 = .string rest ∧ s10 = .int .i64 done.length ∧ done.length ≤ cn ∧ g = cn - done.length ∧ rest.size ≤ s.size ∧
    wr = w.alloc (.cells (Lib.cellsOf done (cn + 1)) 9) ∧ Hid (done ++ Lib.splitB ⟨#[c]⟩ 0 (cn - done.length) rest = Lib.splitB ⟨#[c]⟩ 0 cn s))
  case atStart => exact ⟨[], s, rfl, rfl, Nat.zero_le _, rfl, Nat.le_refl _, by rw [Lib.cellsOf_nil], Lib.hid rfl⟩
  case round =>
    obtain ⟨done, rest, rfl, rfl, hd, rfl, hrs, rfl, HS⟩ := hrel
    have hnext : (Lib.cellsOf done (cn + 1))[done.length]? = some (.string ByteArray.empty) := Lib.cellsOf_next (by omega)
    have fin : Lib.splitB ⟨#[c]⟩ 0 (cn - done.length) rest = [rest] → cn = done.length ∧ (Lib.cellsOf done (cn + 1)).setIfInBounds done.length (.string rest) = (sv (piecesB c s)).toArray := fun h => by
      have e := HS.out
      rw [h, HSP.out] at e
      have hl := HLEN.out
      rw [← e] at hl
      rw [← e]
      have hl' : done.length = cn := by simpa using hl
      refine ⟨hl'.symm, ?_⟩
      rw [Lib.cellsOf_set (by omega) rest, ← hl]
      exact Lib.cellsOf_full _
    have FIN := Lib.hid fin
    clear fin
    by_cases hlt : done.length < cn
    · have hltz : ((done.length : Nat) : Int) < (cn : Int) := by omega
      rcases Lib.indexB_cases rest ⟨#[c]⟩ with hix | ⟨i, hix, hroom⟩
      · have hix' : Lib.indexByte rest.data.toList c = -1 := by rw [← Lib.index_one]; exact hix
        have HX := Lib.hid hix
        clear hix
        go_wp2_with (go_at_call 74; refine (Index_one_any _ _ _).mono ?_; rintro e w' ⟨rfl, hw⟩; rw [hw, hix'])
        go_ret
        obtain ⟨f1, f2⟩ := FIN.out (Lib.splitB_miss _ 0 _ rest HX.out)
        subst f1
        rw [← f2]
        exact ⟨rfl, rfl⟩
      · have hix' : Lib.indexByte rest.data.toList c = i := by rw [← Lib.index_one]; exact hix
        have HX := Lib.hid hix
        have c0 : ¬ ((i : Int) < 0) := by omega
        have hroom' : i + 1 ≤ rest.size := hroom
        have c2 : (i : Int) ≤ ↑rest.size := by omega
        have c3 : (0 : Int) ≤ (i : Int) + 1 := by omega
        have c4 : (i : Int) + 1 ≤ ↑rest.size := by omega
        clear hix hroom
        go_wp2_with (go_at_call 74; refine (Index_one_any _ _ _).mono ?_; rintro e w' ⟨rfl, hw⟩; rw [hw, hix'])
        go_roundg (cn - (done.length + 1))
        case measure => omega
        case rel =>
          refine ⟨done ++ [rest.extract 0 i], rest.extract (i + 1) rest.size, by first | rfl | simp, by simp, by simp; omega, by simp, by rw [ByteArray.size_extract]; omega, by first | (rw [← Lib.cellsOf_set (by omega)]) | (rw [← Lib.cellsOf_set (by omega)]; rfl), Lib.hid ?_⟩
          rw [← HS.out, show cn - done.length = (cn - (done.length + 1)) + 1 by omega, Lib.splitB_hit _ 0 _ rest i HX.out]
          simp
          rfl
    · have hltz : ¬ (((done.length : Nat) : Int) < (cn : Int)) := by omega
      go_wp2
      go_ret
      obtain ⟨f1, f2⟩ := FIN.out (by rw [show cn - done.length = 0 by omega]; rfl)
      subst f1
      rw [← f2]
      exact ⟨rfl, rfl⟩

set_option maxHeartbeats 1000000 in
theorem Split_any (s : ByteArray) (c : UInt8) (w : World) (hs : s.size < 4294967281) :
    Calls Tryd.prog 60 #[.string s, .string ⟨#[c]⟩] w fun e w' =>
      e = .returned (.slice (some ⟨w.heap.size, 0, none⟩) (piecesB c s).length (piecesB c s).length) ∧ w' = w.alloc (.cells (sv (piecesB c s)).toArray 9) := by
  have h := fun W => genSplit_any s c W hs
  rw [← piecesB_length] at h
  have H := Lib.hid h
  clear h
  go_enter Tryd.func60, Tryd.ntmps60
  go_wp2_with (go_at_call 67; refine (H.out _).mono ?_; rintro e w' ⟨rfl, hw⟩; rw [hw])
  go_ret
  exact ⟨rfl, rfl⟩
end Go.Proofs.YtpcflkdeoafpeaaDoor

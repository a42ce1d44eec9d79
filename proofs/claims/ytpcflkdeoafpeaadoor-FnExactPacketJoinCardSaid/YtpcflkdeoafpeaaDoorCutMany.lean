/-
  PacketCut of the reference where the data makes several fragments. Conditions: the quad and the data read as lists of integers, and all is valid.
-/
import Derived.Test.YtpcflkdeoafpeaaDoorPkts
import Derived.Test.YtpcflkdeoafpeaaDoorCutSpec
import Derived.Test.YtpcflkdeoafpeaaDoorDrawPk
import Derived.Deep.LoopGhost
import Derived.Deep.CutRange
import Derived.WalkLawsBesides
namespace Go.Proofs.YtpcflkdeoafpeaaDoor
open Go.RowKit

/-- What holds in the midst of the region: the call has come (a), the row is begun or filled (b), the struct is made (x). -/
def CtSt (R : World) (a b x : Bool) (q : Value) (qs : List Int) (v : Value) (vs : List Int) (X : Nat) (W : World) : Prop :=
  Below R.heap.size R W ∧ (a = true → Own W R.heap.size q qs) ∧ (b = true → Own W R.heap.size v vs) ∧ (a = true → b = true → q.ownBlock = none ∨ q.ownBlock ≠ v.ownBlock) ∧ (x = true → Blk W X 32 #[.int .i64 0, .int .i64 0, .slice none 0 0, .string ⟨#[]⟩, .int .i64 0, .slice none 0 0] ∧ R.heap.size ≤ X)
theorem CtSt.call {R W W' : World} {b x : Bool} {q q' v : Value} {qs qs' vs : List Int} {X : Nat} (h : CtSt R false b x q qs v vs X W) (ho : Own W' W.heap.size q' qs') (hb : Below W.heap.size W W') : CtSt R true b x q' qs' v vs X W' := by
  obtain ⟨h1, _, h3, _, h5⟩ := h
  refine ⟨h1.trans (hb.mono h1.size), fun _ => ho.more h1.size, fun e => (h3 e).below hb, fun _ e => ?_, fun e => ⟨(h5 e).1.kept hb, (h5 e).2⟩⟩
  rcases (h3 e).past ho with h | h
  · exact .inl h
  · exact .inr h
theorem CtSt.lit {R W : World} {a x : Bool} {q v : Value} {qs vs : List Int} {X : Nat} (h : CtSt R a false x q qs v vs X W) : CtSt R a true x q qs (.slice (some ⟨W.heap.size, 0, none⟩) 0 0) [] X (W.alloc (.cells #[] 3)) := by
  obtain ⟨h1, h2, _, _, h5⟩ := h
  have hl : Own (W.alloc (.cells #[] 3)) W.heap.size (.slice (some ⟨W.heap.size, 0, none⟩) 0 0) [] := Own.lit_0 rfl (Nat.le_refl _)
  exact ⟨h1.alloc h1.size _, fun e => (h2 e).alloc _, fun _ => hl.more h1.size, fun e _ => (h2 e).ahead hl, fun e => ⟨(h5 e).1.alloc _, (h5 e).2⟩⟩
theorem CtSt.newX {R W : World} {a b : Bool} {q v : Value} {qs vs : List Int} {X : Nat} (h : CtSt R a b false q qs v vs X W) : CtSt R a b true q qs v vs W.heap.size (W.alloc (.cells #[.int .i64 0, .int .i64 0, .slice none 0 0, .string ⟨#[]⟩, .int .i64 0, .slice none 0 0] 32)) := by
  obtain ⟨h1, h2, h3, h4, _⟩ := h
  exact ⟨h1.alloc h1.size _, fun e => (h2 e).alloc _, fun e => (h3 e).alloc _, h4, fun _ => ⟨Blk.new _ _ _, h1.size⟩⟩
theorem CtSt.app {R W W' : World} {a x : Bool} {q v v' : Value} {qs vs vs' : List Int} {X : Nat} (h : CtSt R a true x q qs v vs X W) (ho : Own W' R.heap.size v' vs') (hb : Below R.heap.size W W') (hg : W.grownBy W' v.ownBlock) (hk : v'.ownBlock = v.ownBlock ∨ v'.ownBlock = some W.heap.size) : CtSt R a true x q qs v' vs' X W' := by
  obtain ⟨h1, h2, h3, h4, h5⟩ := h
  refine ⟨h1.trans hb, fun e => (h2 e).keep hg (h4 e rfl), fun _ => ho, fun e _ => ?_, fun e => ⟨(h5 e).1.grown hg fun hq => ?_, (h5 e).2⟩⟩
  · rcases hk with hk | hk
    · rw [hk]
      exact h4 e rfl
    · rw [hk]
      cases hq : q.ownBlock with
      | none => exact .inl rfl
      | some z =>
        right
        intro he
        have := (World.ownsRow.lt (h2 e) z hq).2
        injection he with he
        omega
  · exact (h3 rfl).offBlk (h5 e).1 (by decide) hq.symm
/-- The fragment is made. -/
def CtEnd (R : World) (X : Nat) (f k : Int) (q : Value) (qs : List Int) (nm : ByteArray) (p : Int) (v : Value) (vs : List Int) (W : World) : Prop :=
  Below R.heap.size R W ∧ Own W R.heap.size q qs ∧ Own W R.heap.size v vs ∧ (q.ownBlock = none ∨ q.ownBlock ≠ v.ownBlock) ∧ Blk W X 32 #[.int .i64 f, .int .i64 k, q, .string nm, .int .i64 p, v] ∧ R.heap.size ≤ X
theorem below_six_ {B0 : Nat} {w W : World} {g : Nat} {x y z u v t : Value} (h : Below B0 w W) (hg : B0 ≤ g) : Below B0 w ((((((W.setCell ⟨g, 0, none⟩ x).setCell ⟨g, 1, none⟩ y).setCell ⟨g, 2, none⟩ z).setCell ⟨g, 3, none⟩ u).setCell ⟨g, 4, none⟩ v).setCell ⟨g, 5, none⟩ t) :=
  (((((h.setCell (p := ⟨g, 0, none⟩) hg x).setCell (p := ⟨g, 1, none⟩) hg y).setCell (p := ⟨g, 2, none⟩) hg z).setCell (p := ⟨g, 3, none⟩) hg u).setCell (p := ⟨g, 4, none⟩) hg v).setCell (p := ⟨g, 5, none⟩) hg t
theorem CtSt.fin {R W : World} {q v : Value} {qs vs : List Int} {X : Nat} {f k p : Int} {nm : ByteArray} (h : CtSt R true true true q qs v vs X W) :
    CtEnd R X f k q qs nm p v vs ((((((W.setCell ⟨X, 0, none⟩ (.int .i64 f)).setCell ⟨X, 1, none⟩ (.int .i64 k)).setCell ⟨X, 2, none⟩ q).setCell ⟨X, 3, none⟩ (.string nm)).setCell ⟨X, 4, none⟩ (.int .i64 p)).setCell ⟨X, 5, none⟩ v) := by
  obtain ⟨h1, h2, h3, h4, h5⟩ := h
  obtain ⟨hb, hX⟩ := h5 rfl
  exact ⟨below_six_ h1 hX, (h2 rfl).all6 ((h2 rfl).offBlk hb (by decide)), (h3 rfl).all6 ((h3 rfl).offBlk hb (by decide)), h4 rfl rfl, hb.all6 _ _ _ _ _ _, hX⟩
theorem CtEnd.mark {R W : World} {q v : Value} {qs vs : List Int} {X : Nat} {f k p : Int} {nm : ByteArray} (h : CtEnd R X f k q qs nm p v vs W) (f' : Int) : CtEnd R X f' k q qs nm p v vs (W.setCell ⟨X, 0, none⟩ (.int .i64 f')) := by
  obtain ⟨h1, h2, h3, h4, h5, h6⟩ := h
  exact ⟨h1.setCell (p := ⟨X, 0, none⟩) h6 _, h2.farN (h2.offBlk h5 (by decide)) _, h3.farN (h3.offBlk h5 (by decide)) _, h4, h5.set_ 0 _, h6⟩
theorem next_j {j m n L : Nat} (hn : 1 ≤ n) (hm : m = j * n) (hl : m < L) (hj : j ≤ cutN n L) : j + 1 ≤ cutN n L := by
  rcases Nat.lt_or_ge j (cutN n L) with h | h
  · exact h
  · have h1 := (cutN_end (L := L) hn).1
    have : j = cutN n L := by omega
    rw [← this] at h1
    omega
theorem last_j {j m n L : Nat} (hn : 1 ≤ n) (hm : m = j * n) (hl : ¬ m < L) (hj : j ≤ cutN n L) : j = cutN n L := by
  rcases Nat.lt_or_ge j (cutN n L) with h | h
  · have := (cutN_end (L := L) hn).2 j h
    omega
  · omega
theorem mark_yes {j m n L : Nat} (hn : 1 ≤ n) (hm : m = j * n) (hl : m < L) (he : min (m + n) L = L) : cutN n L = j + 1 := by
  refine cutN_is hn ?_ (by omega) (by rw [Nat.add_sub_cancel, ← hm]; exact hl)
  rw [Nat.add_mul, Nat.one_mul, ← hm]
  omega
theorem mark_no {j m n L : Nat} (hn : 1 ≤ n) (hm : m = j * n) (he : min (m + n) L ≠ L) : j + 1 ≠ cutN n L := by
  intro h
  have h1 := (cutN_end (L := L) hn).1
  rw [← h, Nat.add_mul, Nat.one_mul, ← hm] at h1
  omega
theorem frag_next {k : Int} {qs : List Int} {nm : ByteArray} {p : Int} {ds : List Int} {n j : Nat} {f : Int} (hl : n < ds.length) (hj : j + 1 ≤ cutN n ds.length) (hf : cutFr (cutN n ds.length) j = f) :
    (cutL k qs nm p ds n).take (j + 1) = (cutL k qs nm p ds n).take j ++ [(f, k, qs, nm, p, chunk n ds j)] := by
  rw [cutL, if_neg (by omega), List.take_add_one]
  congr 1
  rw [List.getElem?_map, List.getElem?_range (by omega)]
  simp [hf]
theorem take_len {k : Int} {qs : List Int} {nm : ByteArray} {p : Int} {ds : List Int} {n j : Nat} {zs : List ((Int × Int × List Int × ByteArray × Int × List Int) × Value × Value)} (hl : n < ds.length) (hj : j ≤ cutN n ds.length) (h : zs.map Prod.fst = (cutL k qs nm p ds n).take j) : zs.length = j := by
  have h1 := congrArg List.length h
  rw [List.length_map, List.length_take, cutL, if_neg (by omega)] at h1
  simp at h1
  omega
theorem take_end {k : Int} {qs : List Int} {nm : ByteArray} {p : Int} {ds : List Int} {n j : Nat} (hl : n < ds.length) (hj : j = cutN n ds.length) : (cutL k qs nm p ds n).take j = cutL k qs nm p ds n := by
  rw [cutL, if_neg (by omega), hj]
  exact List.take_of_length_le (by simp)
/-- What has come up, and what holds then. -/
def CtInv (R : World) (f k : Int) (qa : Value) (qs : List Int) (nm : ByteArray) (p : Int) (vs : List Int) (s0 s1 s2 s3 s4 s5 s6 s7 s8 s9 s10 s11 s12 s13 s14 s15 s16 s17 s18 s19 s20 s21 s22 s23 s24 s25 s26 s27 s28 s29 s30 s31 s32 s33 s34 s35 s36 s37 s38 s39 s40 s41 s42 s43 s44 s45 s46 s47 s48 s49 s50 s51 s52 s53 s54 s55 s56 s57 s58 s59 s60 s61 s62 s63 s64 s65 s66 s67 s68 s69 s70 s71 s72 s73 s74 s75 s76 s77 : Value) (n : Nat) (listed : Array Bool) (a : Act) (W : World) : Prop :=
  ∃ (Eb X : Nat) (Aq : Option Addr) (cq : Nat) (Ad : Option Addr) (cd : Nat),
    (n = 7 ∧ listed = #[true, true, true, false, false, false, true, true, true, true, false, false, false, false] ∧ a = { tmps := #[s0, s1, s2, s3, s4, s5, s6, s7, s8, s9, s10, s11, s12, s13, s14, s15, s16, s17, s18, s19, s20, s21, s22, s23, s24, s25, s26, s27, s28, s29, s30, s31, s32, s33, s34, s35, s36, s37, s38, s39, s40, s41, s42, s43, s44, s45, s46, s47, s48, s49, s50, s51, s52, s53, s54, s55, s56, s57, s58, s59, s60, s61, s62, s63, s64, s65, s66, s67, s68, s69, s70, s71, s72, s73, s74, s75, s76, s77], defers := [] } ∧ CtSt R false false false (.slice Aq qs.length cq) qs (.slice (some ⟨Eb, 0, none⟩) 0 0) [] X W) ∨
    (n = 6 ∧ listed = #[true, true, true, false, false, false, true, true, true, true, false, false, true, false] ∧ a = { tmps := #[s0, s1, s2, s3, s4, s5, s6, s7, s8, s9, s10, .pointer (some ⟨X, 0, none⟩), s12, s13, s14, s15, s16, s17, s18, s19, s20, s21, s22, s23, s24, s25, s26, s27, s28, s29, s30, s31, s32, s33, s34, s35, s36, s37, s38, s39, s40, s41, s42, s43, s44, s45, s46, s47, s48, s49, s50, s51, s52, s53, s54, s55, s56, s57, s58, s59, s60, s61, s62, s63, s64, s65, s66, s67, s68, s69, s70, s71, s72, s73, s74, s75, s76, s77], defers := [] } ∧ CtSt R false false true (.slice Aq qs.length cq) qs (.slice (some ⟨Eb, 0, none⟩) 0 0) [] X W) ∨
    (n = 6 ∧ listed = #[true, true, true, false, false, true, true, true, true, true, false, false, false, false] ∧ a = { tmps := #[s0, s1, s2, s3, s4, s5, s6, s7, s8, s9, s10, s11, s12, s13, s14, s15, s16, s17, s18, s19, s20, s21, s22, s23, s24, s25, s26, s27, s28, s29, s30, s31, s32, s33, s34, s35, s36, s37, s38, s39, s40, s41, s42, s43, s44, s45, s46, s47, s48, s49, s50, s51, s52, s53, s54, s55, s56, s57, .slice (some ⟨Eb, 0, none⟩) 0 0, s59, s60, s61, s62, s63, s64, s65, s66, s67, s68, s69, s70, s71, s72, s73, s74, s75, s76, s77], defers := [] } ∧ CtSt R false true false (.slice Aq qs.length cq) qs (.slice (some ⟨Eb, 0, none⟩) 0 0) [] X W) ∨
    (n = 5 ∧ listed = #[true, true, true, false, false, true, true, true, true, true, false, false, true, false] ∧ a = { tmps := #[s0, s1, s2, s3, s4, s5, s6, s7, s8, s9, s10, .pointer (some ⟨X, 0, none⟩), s12, s13, s14, s15, s16, s17, s18, s19, s20, s21, s22, s23, s24, s25, s26, s27, s28, s29, s30, s31, s32, s33, s34, s35, s36, s37, s38, s39, s40, s41, s42, s43, s44, s45, s46, s47, s48, s49, s50, s51, s52, s53, s54, s55, s56, s57, .slice (some ⟨Eb, 0, none⟩) 0 0, s59, s60, s61, s62, s63, s64, s65, s66, s67, s68, s69, s70, s71, s72, s73, s74, s75, s76, s77], defers := [] } ∧ CtSt R false true true (.slice Aq qs.length cq) qs (.slice (some ⟨Eb, 0, none⟩) 0 0) [] X W) ∨
    (n = 6 ∧ listed = #[true, true, true, true, false, false, true, true, true, true, false, false, false, false] ∧ a = { tmps := #[s0, s1, s2, s3, s4, s5, s6, s7, s8, s9, s10, s11, s12, s13, s14, s15, s16, s17, s18, s19, s20, s21, s22, s23, s24, s25, s26, s27, s28, s29, s30, s31, s32, s33, s34, s35, s36, s37, s38, s39, s40, s41, s42, s43, s44, s45, s46, s47, s48, s49, s50, s51, s52, s53, s54, s55, .agg #[.int .i64 k, qa, .string nm, .int .i64 p], s57, s58, s59, s60, s61, s62, s63, s64, s65, s66, s67, s68, s69, s70, s71, s72, s73, s74, s75, s76, s77], defers := [] } ∧ CtSt R false false false (.slice Aq qs.length cq) qs (.slice (some ⟨Eb, 0, none⟩) 0 0) [] X W) ∨
    (n = 5 ∧ listed = #[true, true, true, true, false, false, true, true, true, true, false, false, true, false] ∧ a = { tmps := #[s0, s1, s2, s3, s4, s5, s6, s7, s8, s9, s10, .pointer (some ⟨X, 0, none⟩), s12, s13, s14, s15, s16, s17, s18, s19, s20, s21, s22, s23, s24, s25, s26, s27, s28, s29, s30, s31, s32, s33, s34, s35, s36, s37, s38, s39, s40, s41, s42, s43, s44, s45, s46, s47, s48, s49, s50, s51, s52, s53, s54, s55, .agg #[.int .i64 k, qa, .string nm, .int .i64 p], s57, s58, s59, s60, s61, s62, s63, s64, s65, s66, s67, s68, s69, s70, s71, s72, s73, s74, s75, s76, s77], defers := [] } ∧ CtSt R false false true (.slice Aq qs.length cq) qs (.slice (some ⟨Eb, 0, none⟩) 0 0) [] X W) ∨
    (n = 5 ∧ listed = #[true, true, true, true, false, true, true, true, true, true, false, false, false, false] ∧ a = { tmps := #[s0, s1, s2, s3, s4, s5, s6, s7, s8, s9, s10, s11, s12, s13, s14, s15, s16, s17, s18, s19, s20, s21, s22, s23, s24, s25, s26, s27, s28, s29, s30, s31, s32, s33, s34, s35, s36, s37, s38, s39, s40, s41, s42, s43, s44, s45, s46, s47, s48, s49, s50, s51, s52, s53, s54, s55, .agg #[.int .i64 k, qa, .string nm, .int .i64 p], s57, .slice (some ⟨Eb, 0, none⟩) 0 0, s59, s60, s61, s62, s63, s64, s65, s66, s67, s68, s69, s70, s71, s72, s73, s74, s75, s76, s77], defers := [] } ∧ CtSt R false true false (.slice Aq qs.length cq) qs (.slice (some ⟨Eb, 0, none⟩) 0 0) [] X W) ∨
    (n = 4 ∧ listed = #[true, true, true, true, false, true, true, true, true, true, false, false, true, false] ∧ a = { tmps := #[s0, s1, s2, s3, s4, s5, s6, s7, s8, s9, s10, .pointer (some ⟨X, 0, none⟩), s12, s13, s14, s15, s16, s17, s18, s19, s20, s21, s22, s23, s24, s25, s26, s27, s28, s29, s30, s31, s32, s33, s34, s35, s36, s37, s38, s39, s40, s41, s42, s43, s44, s45, s46, s47, s48, s49, s50, s51, s52, s53, s54, s55, .agg #[.int .i64 k, qa, .string nm, .int .i64 p], s57, .slice (some ⟨Eb, 0, none⟩) 0 0, s59, s60, s61, s62, s63, s64, s65, s66, s67, s68, s69, s70, s71, s72, s73, s74, s75, s76, s77], defers := [] } ∧ CtSt R false true true (.slice Aq qs.length cq) qs (.slice (some ⟨Eb, 0, none⟩) 0 0) [] X W) ∨
    (n = 5 ∧ listed = #[true, true, true, true, true, false, true, true, true, true, false, false, false, false] ∧ a = { tmps := #[s0, s1, s2, s3, s4, s5, s6, s7, s8, s9, s10, s11, s12, s13, s14, s15, s16, s17, s18, s19, s20, s21, s22, s23, s24, s25, s26, s27, s28, s29, s30, s31, s32, s33, s34, s35, s36, s37, s38, s39, s40, s41, s42, s43, s44, s45, s46, s47, s48, s49, s50, s51, s52, s53, s54, s55, .agg #[.int .i64 k, qa, .string nm, .int .i64 p], .agg #[.int .i64 k, .slice Aq qs.length cq, .string nm, .int .i64 p], s58, s59, s60, s61, s62, s63, s64, s65, s66, s67, s68, s69, s70, s71, s72, s73, s74, s75, s76, s77], defers := [] } ∧ CtSt R true false false (.slice Aq qs.length cq) qs (.slice (some ⟨Eb, 0, none⟩) 0 0) [] X W) ∨
    (n = 4 ∧ listed = #[true, true, true, true, true, false, true, true, true, true, false, false, true, false] ∧ a = { tmps := #[s0, s1, s2, s3, s4, s5, s6, s7, s8, s9, s10, .pointer (some ⟨X, 0, none⟩), s12, s13, s14, s15, s16, s17, s18, s19, s20, s21, s22, s23, s24, s25, s26, s27, s28, s29, s30, s31, s32, s33, s34, s35, s36, s37, s38, s39, s40, s41, s42, s43, s44, s45, s46, s47, s48, s49, s50, s51, s52, s53, s54, s55, .agg #[.int .i64 k, qa, .string nm, .int .i64 p], .agg #[.int .i64 k, .slice Aq qs.length cq, .string nm, .int .i64 p], s58, s59, s60, s61, s62, s63, s64, s65, s66, s67, s68, s69, s70, s71, s72, s73, s74, s75, s76, s77], defers := [] } ∧ CtSt R true false true (.slice Aq qs.length cq) qs (.slice (some ⟨Eb, 0, none⟩) 0 0) [] X W) ∨
    (n = 4 ∧ listed = #[true, true, true, true, true, true, true, true, true, true, false, false, false, false] ∧ a = { tmps := #[s0, s1, s2, s3, s4, s5, s6, s7, s8, s9, s10, s11, s12, s13, s14, s15, s16, s17, s18, s19, s20, s21, s22, s23, s24, s25, s26, s27, s28, s29, s30, s31, s32, s33, s34, s35, s36, s37, s38, s39, s40, s41, s42, s43, s44, s45, s46, s47, s48, s49, s50, s51, s52, s53, s54, s55, .agg #[.int .i64 k, qa, .string nm, .int .i64 p], .agg #[.int .i64 k, .slice Aq qs.length cq, .string nm, .int .i64 p], .slice (some ⟨Eb, 0, none⟩) 0 0, s59, s60, s61, s62, s63, s64, s65, s66, s67, s68, s69, s70, s71, s72, s73, s74, s75, s76, s77], defers := [] } ∧ CtSt R true true false (.slice Aq qs.length cq) qs (.slice (some ⟨Eb, 0, none⟩) 0 0) [] X W) ∨
    (n = 3 ∧ listed = #[true, true, true, true, true, true, true, true, true, true, false, false, true, false] ∧ a = { tmps := #[s0, s1, s2, s3, s4, s5, s6, s7, s8, s9, s10, .pointer (some ⟨X, 0, none⟩), s12, s13, s14, s15, s16, s17, s18, s19, s20, s21, s22, s23, s24, s25, s26, s27, s28, s29, s30, s31, s32, s33, s34, s35, s36, s37, s38, s39, s40, s41, s42, s43, s44, s45, s46, s47, s48, s49, s50, s51, s52, s53, s54, s55, .agg #[.int .i64 k, qa, .string nm, .int .i64 p], .agg #[.int .i64 k, .slice Aq qs.length cq, .string nm, .int .i64 p], .slice (some ⟨Eb, 0, none⟩) 0 0, s59, s60, s61, s62, s63, s64, s65, s66, s67, s68, s69, s70, s71, s72, s73, s74, s75, s76, s77], defers := [] } ∧ CtSt R true true true (.slice Aq qs.length cq) qs (.slice (some ⟨Eb, 0, none⟩) 0 0) [] X W) ∨
    (n = 2 ∧ listed = #[true, true, true, true, true, true, true, true, true, true, true, true, false, false] ∧ a = { tmps := #[s0, s1, s2, s3, s4, s5, s6, s7, s8, s9, s10, s11, s12, s13, s14, s15, s16, s17, s18, s19, s20, s21, s22, s23, s24, s25, s26, s27, s28, s29, s30, s31, s32, s33, s34, s35, s36, s37, s38, s39, s40, s41, s42, s43, s44, s45, s46, s47, s48, s49, s50, s51, s52, s53, s54, s55, .agg #[.int .i64 k, qa, .string nm, .int .i64 p], .agg #[.int .i64 k, .slice Aq qs.length cq, .string nm, .int .i64 p], .slice (some ⟨Eb, 0, none⟩) 0 0, s59, s60, s61, s62, .slice Ad vs.length cd, .agg #[.int .i64 f, .int .i64 k, .slice Aq qs.length cq, .string nm, .int .i64 p, .slice Ad vs.length cd], s65, s66, s67, s68, s69, s70, s71, s72, s73, s74, s75, s76, s77], defers := [] } ∧ CtSt R true true false (.slice Aq qs.length cq) qs (.slice Ad vs.length cd) vs X W) ∨
    (n = 1 ∧ listed = #[true, true, true, true, true, true, true, true, true, true, true, true, true, false] ∧ a = { tmps := #[s0, s1, s2, s3, s4, s5, s6, s7, s8, s9, s10, .pointer (some ⟨X, 0, none⟩), s12, s13, s14, s15, s16, s17, s18, s19, s20, s21, s22, s23, s24, s25, s26, s27, s28, s29, s30, s31, s32, s33, s34, s35, s36, s37, s38, s39, s40, s41, s42, s43, s44, s45, s46, s47, s48, s49, s50, s51, s52, s53, s54, s55, .agg #[.int .i64 k, qa, .string nm, .int .i64 p], .agg #[.int .i64 k, .slice Aq qs.length cq, .string nm, .int .i64 p], .slice (some ⟨Eb, 0, none⟩) 0 0, s59, s60, s61, s62, .slice Ad vs.length cd, .agg #[.int .i64 f, .int .i64 k, .slice Aq qs.length cq, .string nm, .int .i64 p, .slice Ad vs.length cd], s65, s66, s67, s68, s69, s70, s71, s72, s73, s74, s75, s76, s77], defers := [] } ∧ CtSt R true true true (.slice Aq qs.length cq) qs (.slice Ad vs.length cd) vs X W)

set_option maxRecDepth 100000 in
set_option maxHeartbeats 16000000 in
theorem spec_PacketCut_many (k : Int) (q : Value) (nm : ByteArray) (p : Int) (qs : List Int) (d : Value) (ds : List Int) (n : Nat) (w : World) (hq : Ints w 0 q qs) (hd : Ints w 0 d ds) (hn : nm.size < 4294967281) (h1 : adOk k qs nm p = true) (h2 : validL ds = true) (h3 : inR (n : Int) 1 40 = true) (hlt0 : n < ds.length) :
    Calls Tryd.prog 19 #[.agg #[.int .i64 k, q, .string nm, .int .i64 p], d, .int .i64 (n : Int)] w fun e w' => GaveK w (cutR k qs nm p ds n) (cutOk k qs nm p ds n) e w' := by
  have HQ := Lib.hid hq
  have HD := Lib.hid hd
  have E : Hid (cutOk k qs nm p ds (n : Int) = true) := Lib.hid (by rw [cutOk, h1, h2, h3]; rfl)
  have EL : Hid (cutR k qs nm p ds (n : Int) = cutL k qs nm p ds n) := Lib.hid (by rw [cutR_ok E.out]; rfl)
  have hl120 := validL_len h2
  have hql := (adOk_sizes h1).1
  have hn1 : 1 ≤ n ∧ n ≤ 40 := by
    simp [inR] at h3
    omega
  obtain ⟨A, c, rfl, hc, hm, _⟩ := hq.open_
  obtain ⟨A9, c9, rfl, hc9, hm9, hA9⟩ := hd.open_
  obtain ⟨b9, o9, rfl, _, hb9, hs9⟩ := hA9.resolve_left (fun h => by rw [h] at hlt0; simp at hlt0)
  obtain ⟨V, hV⟩ : ∃ V, (w.alloc (.cells #[.int .i64 k, .slice A qs.length c, .string nm, .int .i64 p] 30)).alloc (.cells #[] 32) = V := ⟨_, rfl⟩
  have K : Hid (Blk V w.heap.size 30 #[.int .i64 k, .slice A qs.length c, .string nm, .int .i64 p]) := Lib.hid (by rw [← hV]; exact (Blk.new_ rfl).alloc _)
  have B : Hid (Below w.heap.size w V) := Lib.hid (by rw [← hV]; exact ((Below.refl _ _).alloc (Nat.le_refl _) _).alloc (by simp) _)
  have I : Hid (Ints V 0 (.slice A qs.length c) qs) := Lib.hid (by rw [← hV]; exact (HQ.out.alloc _).alloc _)
  have D : Hid (Ints V 0 (.slice (some ⟨b9, o9, none⟩) ds.length c9) ds) := Lib.hid (by rw [← hV]; exact (HD.out.alloc _).alloc _)
  have LK : Hid (OwnK V (w.heap.size + 1) (.slice (some ⟨w.heap.size + 1, 0, none⟩) 0 0) []) := Lib.hid (by rw [← hV]; exact litK0 (by simp) (by simp))
  have zV : V.heap.size = w.heap.size + 1 + 1 := by rw [← hV]; simp
  have S9 := Lib.hid hs9
  have a0 : V.cell? ⟨w.heap.size, 0, none⟩ = some (.int .i64 k) := K.out.cell 0
  have a1 : V.cell? ⟨w.heap.size, 1, none⟩ = some (.slice A qs.length c) := K.out.cell 1
  have a2 : V.cell? ⟨w.heap.size, 2, none⟩ = some (.string nm) := K.out.cell 2
  have a3 : V.cell? ⟨w.heap.size, 3, none⟩ = some (.int .i64 p) := K.out.cell 3
  have hq2 : qs.length ≤ 1048576 := by omega
  have HLT0 := Lib.hid hlt0
  obtain ⟨L, hLn⟩ : ∃ L, ds.length = L := ⟨_, rfl⟩
  have HLN := Lib.hid hLn
  rw [hLn] at hlt0 hl120 hc9 D ⊢
  have hle' : ¬ (L : Int) ≤ (n : Int) := by omega
  clear hq hd hs9 hA9 hLn HD
  go_enter Tryd.func19, Tryd.ntmps19
  go_wp2_with (first | (go_at_call 32; refine (spec_AddressValid_any k _ nm p qs _ I.out hn).mono ?_; rintro e w1 ⟨rfl, b1⟩; rw [h1]) | (go_at_call 33; refine (spec_BytesValid_any _ ds _ (D.out.below b1)).mono ?_; rintro e w' ⟨rfl, rfl⟩; rw [h2]) | (go_at_call 34; refine (l6In_any _ _ _ _).mono ?_; rintro e w' ⟨rfl, rfl⟩; rw [h3]))
  have B1 := Lib.hid (B.out.trans (b1.mono B.out.size))
  have K1 := Lib.hid (K.out.kept b1)
  have L1 := Lib.hid (LK.out.below b1)
  have z1 : w.heap.size + 1 + 1 ≤ w1.heap.size := by have := b1.size; omega
  clear b1 hV K B I D LK a0 a1 a2 a3
  have hdec : decide (L ≤ n) = false := decide_eq_false (by omega)
  (try rw [hdec])
  clear hdec
  go_loopg [8, 9] (L + n) (fun g v i wr => ∃ (j m : Nat) (zs : List ((Int × Int × List Int × ByteArray × Int × List Int) × Value × Value)), g = L + n - m ∧ m ≤ L + n ∧ i = .int .i64 (m : Int) ∧ Hid (m = j * n) ∧ Hid (j ≤ m) ∧ Hid (j ≤ cutN n L) ∧ Hid (zs.map Prod.fst = (cutL k qs nm p ds n).take j) ∧ Hid (OwnK wr (w.heap.size + 1) v zs) ∧ Hid (RowsK wr (w.heap.size + 1) zs) ∧ Hid (ApartK zs) ∧ Hid (Below (w.heap.size + 1) w1 wr))
  case atStart => exact ⟨0, 0, [], by omega, by omega, rfl, Lib.hid (by simp), Lib.hid (Nat.le_refl _), Lib.hid (Nat.zero_le _), Lib.hid (by simp), L1, Lib.hid (RowsK.nil_ _ _), Lib.hid ApartK.nil_, Lib.hid (Below.refl _ _)⟩
  case round =>
    obtain ⟨j, m, zs, rfl, hmn, rfl, HM, HJ, HN, HZ, OK, RK, AK, HB⟩ := hrel
    obtain ⟨AV, cv, rfl, hcv, hzc, hAV⟩ := OK.out.form
    have HAVK := Lib.hid hAV
    have HBw : Hid (Below w.heap.size w wr) := Lib.hid (B1.out.trans (HB.out.mono (Nat.le_succ _)))
    have zl : Hid (zs.length = j) := Lib.hid (take_len HLT0.out (by rw [HLN.out]; exact HN.out) HZ.out)
    have zwr : w.heap.size + 1 ≤ wr.heap.size := by have := HB.out.size; omega
    clear hAV
    by_cases hlt : m < L
    · have hlt' : (m : Int) < (L : Int) := by omega
      have HLT := Lib.hid hlt
      have hzb : (zs.length : Int) ≤ 200 := by have := zl.out; have := HJ.out; omega
      obtain ⟨e, he⟩ : ∃ e, min (m + n) L = e := ⟨_, rfl⟩
      have HE := Lib.hid he
      have hch : (ds.drop m).take (e - m) = chunk n ds j := chunk_is HLN.out HM.out he hlt
      have HC := Lib.hid hch
      have CL2 : Hid (([] : List Int).length + (chunk n ds j).length ≤ 1099511627776) := Lib.hid (by rw [chunk_length]; simp; omega)
      have HW := Lib.hid (cut_nums hmn hl120 hn1.2 hzb)
      have hem : m ≤ e ∧ e ≤ L := by omega
      obtain ⟨hem1, heL⟩ := hem
      have HNJ := Lib.hid (next_j hn1.1 HM.out hlt HN.out)
      obtain ⟨hn1a, hn40⟩ := hn1
      clear hch he
      go_upto_region 9 with fail
      go_cut [10] from 40 to 76 (fun s10 wx => s10 = .int .i64 (e : Int) ∧ wr = wx)
      case first =>
        obtain ⟨wq1, wz1⟩ := HW.out
        have he := HE.out
        have he2 : (L < m + n ∧ e = L) ∨ (m + n ≤ L ∧ e = m + n) := by omega
        clear he
        rcases he2 with ⟨hmin, hee⟩ | ⟨hmin, hee⟩
        · have hmi : (L : Int) < (m : Int) + (n : Int) := by omega
          clear hmin
          go_wp2_with fail
          go_meet
          exact ⟨by rw [hee], rfl⟩
        · have hmi : ¬ (L : Int) < (m : Int) + (n : Int) := by omega
          clear hmin
          go_wp2_with fail
          go_meet
          exact ⟨by subst hee; simp, rfl⟩
      case rest =>
      obtain ⟨rfl, rfl⟩ := hcut
      have KR := Lib.hid (K1.out.below HB.out (Nat.lt_succ_self _))
      have IR := Lib.hid (HQ.out.below HBw.out)
      have hs0 : (0 : Int) ≤ (e : Int) := by omega
      have hs1 : (e : Int) ≤ (c9 : Int) := by omega
      have hs3 : ¬ c9 = m := by omega
      have JR := Lib.hid (part_to (c := c9 - m) (S9.out.below HBw.out hb9) HLN.out HC.out hem1 (by omega) (by omega))
      have TS : ∀ W : World, (Instr.slice 25 (.slice (some ⟨b9, o9, none⟩) L c9) (some (.int .i64 (m : Int))) (some (.int .i64 (e : Int))) none).run Tryd.prog W = .ok (.slice (some ⟨b9, o9 + m, none⟩) (e - m) (c9 - m)) W := by (intro W; go_simp)
      have wz1 := HW.out.2
      go_upto_region 10 with fail
      go_cut [11] from 40 to 76 (fun s11 wx => ∃ X q2 d2, s11 = .pointer (some ⟨X, 0, none⟩) ∧ CtEnd wr X ((zs.length : Int) + 1) k q2 qs nm p d2 (chunk n ds j) wx)
      case first =>
        refine wp_region_any (by kernel_rfl) ?_
        change wpAny _ _ _ _ _ _ _ (World.drew _)
        refine wpAny_take (i := 0) (v := .slice AV zs.length cv) rfl (by kernel_rfl) (by kernel_rfl) (by kernel_rfl) (fun _ _ _ h => h) (Or.inl ⟨by rfl, by (intro w; go_simp)⟩) ?_
        refine wpAny_take (i := 1) (v := .int .i64 (zs.length : Int)) rfl (by kernel_rfl) (by kernel_rfl) (by kernel_rfl) (fun _ _ _ h => h) (Or.inl ⟨by rfl, by (intro w; go_simp)⟩) ?_
        refine wpAny_take (i := 2) (v := .int .i64 ((zs.length : Int) + 1)) rfl (by kernel_rfl) (by kernel_rfl) (by kernel_rfl) (fun _ _ _ h => h) (Or.inl ⟨by rfl, by (intro w; go_simp)⟩) ?_
        refine wpAny_take (i := 6) (v := .slice (some ⟨b9, o9, none⟩) L c9) rfl (by kernel_rfl) (by kernel_rfl) (by kernel_rfl) (fun _ _ _ h => h) (Or.inl ⟨by rfl, by (intro w; go_simp)⟩) ?_
        refine wpAny_take (i := 7) (v := .int .i64 (m : Int)) rfl (by kernel_rfl) (by kernel_rfl) (by kernel_rfl) (fun _ _ _ h => h) (Or.inl ⟨by rfl, by (intro w; go_simp)⟩) ?_
        refine wpAny_take (i := 8) (v := .int .i64 (e : Int)) rfl (by kernel_rfl) (by kernel_rfl) (by kernel_rfl) (fun _ _ _ h => h) (Or.inl ⟨by rfl, by (intro w; go_simp)⟩) ?_
        refine wpAny_take (i := 9) (v := .slice (some ⟨b9, o9 + m, none⟩) (e - m) (c9 - m)) rfl (by kernel_rfl) (by kernel_rfl) (by kernel_rfl) (fun _ _ _ h => h) (Or.inl ⟨by rfl, by (intro w; go_simp)⟩) ?_
        have S0 : CtSt wr false false false (.slice none qs.length 0) qs (.slice (some ⟨0, 0, none⟩) 0 0) [] 0 wr.drew := ⟨(Below.refl _ _).drew, (fun e => by cases e), (fun e => by cases e), (fun e => by cases e), (fun e => by cases e)⟩
        refine wpAny_memo (CtInv wr ((zs.length : Int) + 1) k (.slice A qs.length c) qs nm p (chunk n ds j) _ _ _ _ _ _ _ _ _ _ _ _ _ _ _ _ _ _ _ _ _ _ _ _ _ _ _ _ _ _ _ _ _ _ _ _ _ _ _ _ _ _ _ _ _ _ _ _ _ _ _ _ _ _ _ _ _ _ _ _ _ _ _ _ _ _ _ _ _ _ _ _ _ _ _ _ _ _) ?_ _ _ _ _ ⟨0, 0, none, 0, none, 0, (Or.inl ⟨rfl, rfl, rfl, S0⟩)⟩
        clear S0
        intro nl listed a W IH hI
        obtain ⟨Eb, X, Aq, cq, Ad, cd, hI⟩ := hI
        rcases hI with ⟨rfl, rfl, rfl, hS⟩ | ⟨rfl, rfl, rfl, hS⟩ | ⟨rfl, rfl, rfl, hS⟩ | ⟨rfl, rfl, rfl, hS⟩ | ⟨rfl, rfl, rfl, hS⟩ | ⟨rfl, rfl, rfl, hS⟩ | ⟨rfl, rfl, rfl, hS⟩ | ⟨rfl, rfl, rfl, hS⟩ | ⟨rfl, rfl, rfl, hS⟩ | ⟨rfl, rfl, rfl, hS⟩ | ⟨rfl, rfl, rfl, hS⟩ | ⟨rfl, rfl, rfl, hS⟩ | ⟨rfl, rfl, rfl, hS⟩ | ⟨rfl, rfl, rfl, hS⟩
        · have HS := Lib.hid hS
          clear hS
          refine wpAny_ready (rs := [3, 5, 12]) (by kernel_rfl) (by simp) ?_
          refine AllReady.cons rfl (fun K hK => ?_) ?_
          · have c0 : W.cell? ⟨w.heap.size, 0, none⟩ = some (.int .i64 k) := (KR.out.kept HS.out.1).cell 0
            have c1 : W.cell? ⟨w.heap.size, 1, none⟩ = some (.slice A qs.length c) := (KR.out.kept HS.out.1).cell 1
            have c2 : W.cell? ⟨w.heap.size, 2, none⟩ = some (.string nm) := (KR.out.kept HS.out.1).cell 2
            have c3 : W.cell? ⟨w.heap.size, 3, none⟩ = some (.int .i64 p) := (KR.out.kept HS.out.1).cell 3
            go_simp
            refine hK _ _ ?_
            clear hK K
            exact IH _ (by decide) _ _ _ ⟨Eb, X, Aq, cq, Ad, cd, (Or.inr (Or.inr (Or.inr (Or.inr (Or.inl ⟨rfl, rfl, rfl, HS.out⟩)))))⟩
          refine AllReady.cons rfl (fun K hK => ?_) ?_
          · go_simp
            refine hK _ _ ?_
            clear hK K
            exact IH _ (by decide) _ _ _ ⟨W.heap.size, X, Aq, cq, Ad, cd, (Or.inr (Or.inr (Or.inl ⟨rfl, rfl, rfl, HS.out.lit⟩)))⟩
          refine AllReady.cons rfl (fun K hK => ?_) ?_
          · go_simp
            refine hK _ _ ?_
            clear hK K
            exact IH _ (by decide) _ _ _ ⟨Eb, W.heap.size, Aq, cq, Ad, cd, (Or.inr (Or.inl ⟨rfl, rfl, rfl, HS.out.newX⟩))⟩
          exact AllReady.nil
        · have HS := Lib.hid hS
          clear hS
          refine wpAny_ready (rs := [3, 5]) (by kernel_rfl) (by simp) ?_
          refine AllReady.cons rfl (fun K hK => ?_) ?_
          · have c0 : W.cell? ⟨w.heap.size, 0, none⟩ = some (.int .i64 k) := (KR.out.kept HS.out.1).cell 0
            have c1 : W.cell? ⟨w.heap.size, 1, none⟩ = some (.slice A qs.length c) := (KR.out.kept HS.out.1).cell 1
            have c2 : W.cell? ⟨w.heap.size, 2, none⟩ = some (.string nm) := (KR.out.kept HS.out.1).cell 2
            have c3 : W.cell? ⟨w.heap.size, 3, none⟩ = some (.int .i64 p) := (KR.out.kept HS.out.1).cell 3
            go_simp
            refine hK _ _ ?_
            clear hK K
            exact IH _ (by decide) _ _ _ ⟨Eb, X, Aq, cq, Ad, cd, (Or.inr (Or.inr (Or.inr (Or.inr (Or.inr (Or.inl ⟨rfl, rfl, rfl, HS.out⟩))))))⟩
          refine AllReady.cons rfl (fun K hK => ?_) ?_
          · go_simp
            refine hK _ _ ?_
            clear hK K
            exact IH _ (by decide) _ _ _ ⟨W.heap.size, X, Aq, cq, Ad, cd, (Or.inr (Or.inr (Or.inr (Or.inl ⟨rfl, rfl, rfl, HS.out.lit⟩))))⟩
          exact AllReady.nil
        · have HS := Lib.hid hS
          clear hS
          refine wpAny_ready (rs := [3, 12]) (by kernel_rfl) (by simp) ?_
          refine AllReady.cons rfl (fun K hK => ?_) ?_
          · have c0 : W.cell? ⟨w.heap.size, 0, none⟩ = some (.int .i64 k) := (KR.out.kept HS.out.1).cell 0
            have c1 : W.cell? ⟨w.heap.size, 1, none⟩ = some (.slice A qs.length c) := (KR.out.kept HS.out.1).cell 1
            have c2 : W.cell? ⟨w.heap.size, 2, none⟩ = some (.string nm) := (KR.out.kept HS.out.1).cell 2
            have c3 : W.cell? ⟨w.heap.size, 3, none⟩ = some (.int .i64 p) := (KR.out.kept HS.out.1).cell 3
            go_simp
            refine hK _ _ ?_
            clear hK K
            exact IH _ (by decide) _ _ _ ⟨Eb, X, Aq, cq, Ad, cd, (Or.inr (Or.inr (Or.inr (Or.inr (Or.inr (Or.inr (Or.inl ⟨rfl, rfl, rfl, HS.out⟩)))))))⟩
          refine AllReady.cons rfl (fun K hK => ?_) ?_
          · go_simp
            refine hK _ _ ?_
            clear hK K
            exact IH _ (by decide) _ _ _ ⟨Eb, W.heap.size, Aq, cq, Ad, cd, (Or.inr (Or.inr (Or.inr (Or.inl ⟨rfl, rfl, rfl, HS.out.newX⟩))))⟩
          exact AllReady.nil
        · have HS := Lib.hid hS
          clear hS
          refine wpAny_ready (rs := [3]) (by kernel_rfl) (by simp) ?_
          refine AllReady.cons rfl (fun K hK => ?_) ?_
          · have c0 : W.cell? ⟨w.heap.size, 0, none⟩ = some (.int .i64 k) := (KR.out.kept HS.out.1).cell 0
            have c1 : W.cell? ⟨w.heap.size, 1, none⟩ = some (.slice A qs.length c) := (KR.out.kept HS.out.1).cell 1
            have c2 : W.cell? ⟨w.heap.size, 2, none⟩ = some (.string nm) := (KR.out.kept HS.out.1).cell 2
            have c3 : W.cell? ⟨w.heap.size, 3, none⟩ = some (.int .i64 p) := (KR.out.kept HS.out.1).cell 3
            go_simp
            refine hK _ _ ?_
            clear hK K
            exact IH _ (by decide) _ _ _ ⟨Eb, X, Aq, cq, Ad, cd, (Or.inr (Or.inr (Or.inr (Or.inr (Or.inr (Or.inr (Or.inr (Or.inl ⟨rfl, rfl, rfl, HS.out⟩))))))))⟩
          exact AllReady.nil
        · have HS := Lib.hid hS
          clear hS
          refine wpAny_ready (rs := [4, 5, 12]) (by kernel_rfl) (by simp) ?_
          refine AllReady.cons rfl (fun K hK => ?_) ?_
          · go_simp
            refine (l13Copy_any k _ nm p qs _ (IR.out.below HS.out.1) hq2).mono ?_
            rintro e w2 ⟨q2, rfl, o2, b2⟩
            obtain ⟨Aq, cq, rfl, _, _, _⟩ := o2.form
            have S1 := HS.out.call o2 b2
            clear o2 b2 HS
            refine hK _ _ ?_
            clear hK K
            exact IH _ (by decide) _ _ _ ⟨Eb, X, Aq, cq, Ad, cd, (Or.inr (Or.inr (Or.inr (Or.inr (Or.inr (Or.inr (Or.inr (Or.inr (Or.inl ⟨rfl, rfl, rfl, S1⟩)))))))))⟩
          refine AllReady.cons rfl (fun K hK => ?_) ?_
          · go_simp
            refine hK _ _ ?_
            clear hK K
            exact IH _ (by decide) _ _ _ ⟨W.heap.size, X, Aq, cq, Ad, cd, (Or.inr (Or.inr (Or.inr (Or.inr (Or.inr (Or.inr (Or.inl ⟨rfl, rfl, rfl, HS.out.lit⟩)))))))⟩
          refine AllReady.cons rfl (fun K hK => ?_) ?_
          · go_simp
            refine hK _ _ ?_
            clear hK K
            exact IH _ (by decide) _ _ _ ⟨Eb, W.heap.size, Aq, cq, Ad, cd, (Or.inr (Or.inr (Or.inr (Or.inr (Or.inr (Or.inl ⟨rfl, rfl, rfl, HS.out.newX⟩))))))⟩
          exact AllReady.nil
        · have HS := Lib.hid hS
          clear hS
          refine wpAny_ready (rs := [4, 5]) (by kernel_rfl) (by simp) ?_
          refine AllReady.cons rfl (fun K hK => ?_) ?_
          · go_simp
            refine (l13Copy_any k _ nm p qs _ (IR.out.below HS.out.1) hq2).mono ?_
            rintro e w2 ⟨q2, rfl, o2, b2⟩
            obtain ⟨Aq, cq, rfl, _, _, _⟩ := o2.form
            have S1 := HS.out.call o2 b2
            clear o2 b2 HS
            refine hK _ _ ?_
            clear hK K
            exact IH _ (by decide) _ _ _ ⟨Eb, X, Aq, cq, Ad, cd, (Or.inr (Or.inr (Or.inr (Or.inr (Or.inr (Or.inr (Or.inr (Or.inr (Or.inr (Or.inl ⟨rfl, rfl, rfl, S1⟩))))))))))⟩
          refine AllReady.cons rfl (fun K hK => ?_) ?_
          · go_simp
            refine hK _ _ ?_
            clear hK K
            exact IH _ (by decide) _ _ _ ⟨W.heap.size, X, Aq, cq, Ad, cd, (Or.inr (Or.inr (Or.inr (Or.inr (Or.inr (Or.inr (Or.inr (Or.inl ⟨rfl, rfl, rfl, HS.out.lit⟩))))))))⟩
          exact AllReady.nil
        · have HS := Lib.hid hS
          clear hS
          refine wpAny_ready (rs := [4, 12]) (by kernel_rfl) (by simp) ?_
          refine AllReady.cons rfl (fun K hK => ?_) ?_
          · go_simp
            refine (l13Copy_any k _ nm p qs _ (IR.out.below HS.out.1) hq2).mono ?_
            rintro e w2 ⟨q2, rfl, o2, b2⟩
            obtain ⟨Aq, cq, rfl, _, _, _⟩ := o2.form
            have S1 := HS.out.call o2 b2
            clear o2 b2 HS
            refine hK _ _ ?_
            clear hK K
            exact IH _ (by decide) _ _ _ ⟨Eb, X, Aq, cq, Ad, cd, (Or.inr (Or.inr (Or.inr (Or.inr (Or.inr (Or.inr (Or.inr (Or.inr (Or.inr (Or.inr (Or.inl ⟨rfl, rfl, rfl, S1⟩)))))))))))⟩
          refine AllReady.cons rfl (fun K hK => ?_) ?_
          · go_simp
            refine hK _ _ ?_
            clear hK K
            exact IH _ (by decide) _ _ _ ⟨Eb, W.heap.size, Aq, cq, Ad, cd, (Or.inr (Or.inr (Or.inr (Or.inr (Or.inr (Or.inr (Or.inr (Or.inl ⟨rfl, rfl, rfl, HS.out.newX⟩))))))))⟩
          exact AllReady.nil
        · have HS := Lib.hid hS
          clear hS
          refine wpAny_ready (rs := [4]) (by kernel_rfl) (by simp) ?_
          refine AllReady.cons rfl (fun K hK => ?_) ?_
          · go_simp
            refine (l13Copy_any k _ nm p qs _ (IR.out.below HS.out.1) hq2).mono ?_
            rintro e w2 ⟨q2, rfl, o2, b2⟩
            obtain ⟨Aq, cq, rfl, _, _, _⟩ := o2.form
            have S1 := HS.out.call o2 b2
            clear o2 b2 HS
            refine hK _ _ ?_
            clear hK K
            exact IH _ (by decide) _ _ _ ⟨Eb, X, Aq, cq, Ad, cd, (Or.inr (Or.inr (Or.inr (Or.inr (Or.inr (Or.inr (Or.inr (Or.inr (Or.inr (Or.inr (Or.inr (Or.inl ⟨rfl, rfl, rfl, S1⟩))))))))))))⟩
          exact AllReady.nil
        · have HS := Lib.hid hS
          clear hS
          refine wpAny_ready (rs := [5, 12]) (by kernel_rfl) (by simp) ?_
          refine AllReady.cons rfl (fun K hK => ?_) ?_
          · go_simp
            refine hK _ _ ?_
            clear hK K
            exact IH _ (by decide) _ _ _ ⟨W.heap.size, X, Aq, cq, Ad, cd, (Or.inr (Or.inr (Or.inr (Or.inr (Or.inr (Or.inr (Or.inr (Or.inr (Or.inr (Or.inr (Or.inl ⟨rfl, rfl, rfl, HS.out.lit⟩)))))))))))⟩
          refine AllReady.cons rfl (fun K hK => ?_) ?_
          · go_simp
            refine hK _ _ ?_
            clear hK K
            exact IH _ (by decide) _ _ _ ⟨Eb, W.heap.size, Aq, cq, Ad, cd, (Or.inr (Or.inr (Or.inr (Or.inr (Or.inr (Or.inr (Or.inr (Or.inr (Or.inr (Or.inl ⟨rfl, rfl, rfl, HS.out.newX⟩))))))))))⟩
          exact AllReady.nil
        · have HS := Lib.hid hS
          clear hS
          refine wpAny_ready (rs := [5]) (by kernel_rfl) (by simp) ?_
          refine AllReady.cons rfl (fun K hK => ?_) ?_
          · go_simp
            refine hK _ _ ?_
            clear hK K
            exact IH _ (by decide) _ _ _ ⟨W.heap.size, X, Aq, cq, Ad, cd, (Or.inr (Or.inr (Or.inr (Or.inr (Or.inr (Or.inr (Or.inr (Or.inr (Or.inr (Or.inr (Or.inr (Or.inl ⟨rfl, rfl, rfl, HS.out.lit⟩))))))))))))⟩
          exact AllReady.nil
        · have HS := Lib.hid hS
          clear hS
          refine wpAny_ready (rs := [10, 12]) (by kernel_rfl) (by simp) ?_
          refine AllReady.cons rfl (fun K hK => ?_) ?_
          · have hlen2 : ([] : List Int).length + (chunk n ds j).length ≤ 1099511627776 := CL2.out
            refine step_ints (by rfl) (.tmp 58) (.tmp 62) (by rfl) (by rfl) (by rfl) (base := wr.heap.size) (v := .slice (some ⟨Eb, 0, none⟩) 0 0) (u := .slice (some ⟨b9, o9 + m, none⟩) (e - m) (c9 - m)) (zs := []) (ys := chunk n ds j) (HS.out.2.2.1 rfl) (JR.out.below HS.out.1) hlen2 HS.out.1.size ?_
            intro v3 w3 o3 b3 g3 k3
            rw [List.nil_append] at o3
            have S3 := HS.out.app o3 b3 g3 k3
            obtain ⟨Ad, cd, rfl, _, _, _⟩ := o3.form
            clear o3 b3 g3 k3 HS
            refine hK _ _ ?_
            clear hK K
            refine wpAny_take (i := 11) (v := Value.agg #[.int .i64 ((zs.length : Int) + 1), .int .i64 k, .slice Aq qs.length cq, .string nm, .int .i64 p, .slice Ad (chunk n ds j).length cd]) rfl (by kernel_rfl) (by kernel_rfl) (by kernel_rfl) (fun _ _ _ h => h) (Or.inl ⟨by rfl, by (intro w; go_simp)⟩) ?_
            exact IH _ (by decide) _ _ _ ⟨Eb, X, Aq, cq, Ad, cd, (Or.inr (Or.inr (Or.inr (Or.inr (Or.inr (Or.inr (Or.inr (Or.inr (Or.inr (Or.inr (Or.inr (Or.inr (Or.inl ⟨rfl, rfl, rfl, S3⟩)))))))))))))⟩
          refine AllReady.cons rfl (fun K hK => ?_) ?_
          · go_simp
            refine hK _ _ ?_
            clear hK K
            exact IH _ (by decide) _ _ _ ⟨Eb, W.heap.size, Aq, cq, Ad, cd, (Or.inr (Or.inr (Or.inr (Or.inr (Or.inr (Or.inr (Or.inr (Or.inr (Or.inr (Or.inr (Or.inr (Or.inl ⟨rfl, rfl, rfl, HS.out.newX⟩))))))))))))⟩
          exact AllReady.nil
        · have HS := Lib.hid hS
          clear hS
          refine wpAny_ready (rs := [10]) (by kernel_rfl) (by simp) ?_
          refine AllReady.cons rfl (fun K hK => ?_) ?_
          · have hlen2 : ([] : List Int).length + (chunk n ds j).length ≤ 1099511627776 := CL2.out
            refine step_ints (by rfl) (.tmp 58) (.tmp 62) (by rfl) (by rfl) (by rfl) (base := wr.heap.size) (v := .slice (some ⟨Eb, 0, none⟩) 0 0) (u := .slice (some ⟨b9, o9 + m, none⟩) (e - m) (c9 - m)) (zs := []) (ys := chunk n ds j) (HS.out.2.2.1 rfl) (JR.out.below HS.out.1) hlen2 HS.out.1.size ?_
            intro v3 w3 o3 b3 g3 k3
            rw [List.nil_append] at o3
            have S3 := HS.out.app o3 b3 g3 k3
            obtain ⟨Ad, cd, rfl, _, _, _⟩ := o3.form
            clear o3 b3 g3 k3 HS
            refine hK _ _ ?_
            clear hK K
            refine wpAny_take (i := 11) (v := Value.agg #[.int .i64 ((zs.length : Int) + 1), .int .i64 k, .slice Aq qs.length cq, .string nm, .int .i64 p, .slice Ad (chunk n ds j).length cd]) rfl (by kernel_rfl) (by kernel_rfl) (by kernel_rfl) (fun _ _ _ h => h) (Or.inl ⟨by rfl, by (intro w; go_simp)⟩) ?_
            exact IH _ (by decide) _ _ _ ⟨Eb, X, Aq, cq, Ad, cd, (Or.inr (Or.inr (Or.inr (Or.inr (Or.inr (Or.inr (Or.inr (Or.inr (Or.inr (Or.inr (Or.inr (Or.inr (Or.inr ⟨rfl, rfl, rfl, S3⟩)))))))))))))⟩
          exact AllReady.nil
        · have HS := Lib.hid hS
          clear hS
          refine wpAny_ready (rs := [12]) (by kernel_rfl) (by simp) ?_
          refine AllReady.cons rfl (fun K hK => ?_) ?_
          · go_simp
            refine hK _ _ ?_
            clear hK K
            exact IH _ (by decide) _ _ _ ⟨Eb, W.heap.size, Aq, cq, Ad, cd, (Or.inr (Or.inr (Or.inr (Or.inr (Or.inr (Or.inr (Or.inr (Or.inr (Or.inr (Or.inr (Or.inr (Or.inr (Or.inr ⟨rfl, rfl, rfl, HS.out.newX⟩)))))))))))))⟩
          exact AllReady.nil
        · have HS := Lib.hid hS
          clear hS
          refine wpAny_ready (rs := [13]) (by kernel_rfl) (by simp) ?_
          refine AllReady.cons rfl (fun K hK => ?_) ?_
          · have bx := (HS.out.2.2.2.2 rfl).1
            have c0 : W.cell? ⟨X, 0, none⟩ = some (.int .i64 0) := bx.cell 0
            have f0 := bx.free 0
            have c1 : W.cell? ⟨X, 1, none⟩ = some (.int .i64 0) := bx.cell 1
            have f1 := bx.free 1
            have c2 : W.cell? ⟨X, 2, none⟩ = some (.slice none 0 0) := bx.cell 2
            have f2 := bx.free 2
            have c3 : W.cell? ⟨X, 3, none⟩ = some (.string ⟨#[]⟩) := bx.cell 3
            have f3 := bx.free 3
            have c4 : W.cell? ⟨X, 4, none⟩ = some (.int .i64 0) := bx.cell 4
            have f4 := bx.free 4
            have c5 : W.cell? ⟨X, 5, none⟩ = some (.slice none 0 0) := bx.cell 5
            have f5 := bx.free 5
            go_simp
            refine hK _ _ ?_
            clear hK K
            refine wpAny_done (by kernel_rfl) ?_ _
            have PD := HS.out.fin (f := (zs.length : Int) + 1) (k := k) (nm := nm) (p := p)
            go_wp2_with fail
            go_meet
            exact ⟨X, _, _, rfl, PD⟩
          exact AllReady.nil
      case rest =>
      obtain ⟨X, q2, d2, rfl, hE⟩ := hcut
      obtain ⟨A2, c2, rfl, _, _, _⟩ := hE.2.1.form
      obtain ⟨A3, c3, rfl, _, _, _⟩ := hE.2.2.1.form
      have C1 := Lib.hid hE
      clear hE HAVK TS
      have he := HE.out
      by_cases heL : e = L
      · have HN2 := Lib.hid (mark_yes hn1a HM.out hlt (he.trans heL))
        have wm : IntKind.i64.wrap ((zs.length : Int) + 1 + 128) = (zs.length : Int) + 1 + 128 := IntWalk.i64_in _ (by omega)
        obtain ⟨W2, hW2⟩ : ∃ W2, wc.setCell ⟨X, 0, none⟩ (.int .i64 ((zs.length : Int) + 1 + 128)) = W2 := ⟨_, rfl⟩
        have C2 := Lib.hid (C1.out.mark ((zs.length : Int) + 1 + 128))
        rw [hW2] at C2
        have x0 : wc.cell? ⟨X, 0, none⟩ = some (.int .i64 ((zs.length : Int) + 1)) := C1.out.2.2.2.2.1.cell 0
        have xf := C1.out.2.2.2.2.1.free 0
        have y0 : W2.cell? ⟨X, 0, none⟩ = some (.int .i64 ((zs.length : Int) + 1 + 128)) := C2.out.2.2.2.2.1.cell 0
        have y1 : W2.cell? ⟨X, 1, none⟩ = some (.int .i64 k) := C2.out.2.2.2.2.1.cell 1
        have y2 : W2.cell? ⟨X, 2, none⟩ = some (.slice A2 qs.length c2) := C2.out.2.2.2.2.1.cell 2
        have y3 : W2.cell? ⟨X, 3, none⟩ = some (.string nm) := C2.out.2.2.2.2.1.cell 3
        have y4 : W2.cell? ⟨X, 4, none⟩ = some (.int .i64 p) := C2.out.2.2.2.2.1.cell 4
        have y5 : W2.cell? ⟨X, 5, none⟩ = some (.slice A3 (chunk n ds j).length c3) := C2.out.2.2.2.2.1.cell 5
        have FR : Hid (cutFr (cutN n ds.length) j = (zs.length : Int) + 1 + 128) := Lib.hid (by rw [HLN.out, cutFr, if_pos HN2.out.symm, zl.out])
        have heL' : (e : Int) = (L : Int) := by rw [heL]
        clear he hlt heL
        have OK2 := Lib.hid (OK.out.below C2.out.1)
        have RK2 := Lib.hid (RK.out.below C2.out.1)
        have BW2 := Lib.hid (HB.out.trans (C2.out.1.mono zwr))
        have HZL : Hid (zs.length + [()].length ≤ 1099511627776) := Lib.hid (by simp; omega)
        clear C1 OK HBw HB
        go_wp2_with (at_builtin; go_loud (refine wp_pkts rfl (.tmp 73) (.tmp 75) rfl rfl rfl (base := w.heap.size + 1) (zs := zs) (ys := [(((zs.length : Int) + 1 + 128, k, qs, nm, p, chunk n ds j), .slice A2 qs.length c2, .slice A3 (chunk n ds j).length c3)]) (OK2.out.alloc _) (litK1 (base := 0) _ k _ qs nm p _ (chunk n ds j) rfl (Nat.zero_le _)).pkts (one_oneCell _ _ _ rfl rfl) HZL.out (by have := BW2.out.size; simp; omega) ?_); intro v4 w4 o4 b4 g4; go_loud (have O4 := Lib.hid o4); go_loud (have B4 := Lib.hid ((BW2.out.alloc (by have := BW2.out.size; omega) _).trans b4)); go_loud (have R4 := Lib.hid ((RowsK.snoc RK2.out (x := ((zs.length : Int) + 1 + 128, k, qs, nm, p, chunk n ds j)) (C2.out.2.1.more zwr) (C2.out.2.2.1.more zwr)).alloc _ |>.keep (OK2.out.alloc _) g4)); clear o4 b4 g4)
        go_roundg (L + n - (m + n))
        case measure => omega
        case rel => exact ⟨j + 1, m + n, _, by omega, by omega, by first | rfl | simp, Lib.hid (by rw [Nat.add_mul, Nat.one_mul, HM.out]), Lib.hid (by have := HJ.out; omega), HNJ, Lib.hid (by rw [List.map_append, HZ.out, frag_next HLT0.out (by rw [HLN.out]; exact HNJ.out) FR.out]; rfl), O4, R4, Lib.hid (AK.out.snoc (RK.out.ahead C2.out.2.1) (RK.out.ahead C2.out.2.2.1) C2.out.2.2.2.1), B4⟩
      · have HN2 := Lib.hid (mark_no hn1a HM.out (by rw [he]; exact heL))
        obtain ⟨W2, hW2⟩ : ∃ W2, wc = W2 := ⟨_, rfl⟩
        have C2 := Lib.hid C1.out
        rw [hW2] at C2
        subst hW2
        have y0 : wc.cell? ⟨X, 0, none⟩ = some (.int .i64 ((zs.length : Int) + 1)) := C2.out.2.2.2.2.1.cell 0
        have y1 : wc.cell? ⟨X, 1, none⟩ = some (.int .i64 k) := C2.out.2.2.2.2.1.cell 1
        have y2 : wc.cell? ⟨X, 2, none⟩ = some (.slice A2 qs.length c2) := C2.out.2.2.2.2.1.cell 2
        have y3 : wc.cell? ⟨X, 3, none⟩ = some (.string nm) := C2.out.2.2.2.2.1.cell 3
        have y4 : wc.cell? ⟨X, 4, none⟩ = some (.int .i64 p) := C2.out.2.2.2.2.1.cell 4
        have y5 : wc.cell? ⟨X, 5, none⟩ = some (.slice A3 (chunk n ds j).length c3) := C2.out.2.2.2.2.1.cell 5
        have FR : Hid (cutFr (cutN n ds.length) j = (zs.length : Int) + 1) := Lib.hid (by rw [HLN.out, cutFr, if_neg HN2.out, zl.out])
        have heL' : ¬ (e : Int) = (L : Int) := by omega
        clear he hlt heL
        have OK2 := Lib.hid (OK.out.below C2.out.1)
        have RK2 := Lib.hid (RK.out.below C2.out.1)
        have BW2 := Lib.hid (HB.out.trans (C2.out.1.mono zwr))
        have HZL : Hid (zs.length + [()].length ≤ 1099511627776) := Lib.hid (by simp; omega)
        clear C1 OK HBw HB
        go_wp2_with (at_builtin; go_loud (refine wp_pkts rfl (.tmp 73) (.tmp 75) rfl rfl rfl (base := w.heap.size + 1) (zs := zs) (ys := [(((zs.length : Int) + 1, k, qs, nm, p, chunk n ds j), .slice A2 qs.length c2, .slice A3 (chunk n ds j).length c3)]) (OK2.out.alloc _) (litK1 (base := 0) _ k _ qs nm p _ (chunk n ds j) rfl (Nat.zero_le _)).pkts (one_oneCell _ _ _ rfl rfl) HZL.out (by have := BW2.out.size; simp; omega) ?_); intro v4 w4 o4 b4 g4; go_loud (have O4 := Lib.hid o4); go_loud (have B4 := Lib.hid ((BW2.out.alloc (by have := BW2.out.size; omega) _).trans b4)); go_loud (have R4 := Lib.hid ((RowsK.snoc RK2.out (x := ((zs.length : Int) + 1, k, qs, nm, p, chunk n ds j)) (C2.out.2.1.more zwr) (C2.out.2.2.1.more zwr)).alloc _ |>.keep (OK2.out.alloc _) g4)); clear o4 b4 g4)
        go_roundg (L + n - (m + n))
        case measure => omega
        case rel => exact ⟨j + 1, m + n, _, by omega, by omega, by first | rfl | simp, Lib.hid (by rw [Nat.add_mul, Nat.one_mul, HM.out]), Lib.hid (by have := HJ.out; omega), HNJ, Lib.hid (by rw [List.map_append, HZ.out, frag_next HLT0.out (by rw [HLN.out]; exact HNJ.out) FR.out]; rfl), O4, R4, Lib.hid (AK.out.snoc (RK.out.ahead C2.out.2.1) (RK.out.ahead C2.out.2.2.1) C2.out.2.2.2.1), B4⟩
    · have hge : ¬ (m : Int) < (L : Int) := by omega
      have hjN := last_j hn1.1 HM.out hlt HN.out
      have HZ2 := Lib.hid (HZ.out.trans (take_end HLT0.out (by rw [HLN.out]; exact hjN)))
      clear hlt hjN
      go_wp2_with fail
      go_ret2
      exact ⟨_, zs, by rw [E.out]; rfl, by rw [EL.out]; exact HZ2.out, OK.out.more_ (Nat.le_succ _), RK.out.more (Nat.le_succ _), AK.out, HBw.out⟩
theorem spec_PacketCut_any (k : Int) (q : Value) (nm : ByteArray) (p : Int) (qs : List Int) (d : Value) (ds : List Int) (s : Int) (w : World) (hq : Ints w 0 q qs) (hd : Ints w 0 d ds) (hn : nm.size < 4294967281) :
    Calls Tryd.prog 19 #[.agg #[.int .i64 k, q, .string nm, .int .i64 p], d, .int .i64 s] w fun e w' => GaveK w (cutR k qs nm p ds s) (cutOk k qs nm p ds s) e w' := by
  by_cases h : cutOk k qs nm p ds s = true
  · have h' := h
    unfold cutOk at h'
    simp only [Bool.and_eq_true] at h'
    obtain ⟨⟨h1, h2⟩, h3⟩ := h'
    have h4 := h3
    simp [inR] at h4
    obtain ⟨n, rfl⟩ : ∃ n : Nat, s = n := ⟨s.toNat, by omega⟩
    by_cases hl : ds.length ≤ n
    · exact spec_PacketCut_one k q nm p qs d ds n w hq hd hn h1 h2 h3 hl
    · exact spec_PacketCut_many k q nm p qs d ds n w hq hd hn h1 h2 h3 (by omega)
  · exact spec_PacketCut_not k q nm p qs d ds s w hq hd hn (by simpa using h)
end Go.Proofs.YtpcflkdeoafpeaaDoor

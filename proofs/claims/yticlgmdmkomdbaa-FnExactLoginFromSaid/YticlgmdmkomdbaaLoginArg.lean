/-
  A login that came in as an argument: its two strings; and the laws' own toLogin, szLogin, eqLogin. Conditions: none.
-/
import Derived.Test.YticlgmdmkomdbaaKit
import Derived.Test.YticlgmdmkomdbaaBlk
import Derived.Lib.SmallJoins
namespace Go.Proofs.Yticlgmdmkomdbaa
open Go.ChangeShapes Go.WideShapes Go.ChangeAt Go.RowKit Go.Joins

theorem Try.cellsLogin : Try.prog.cellsOf 44 = 2 := by kernel_rfl
theorem login_of {H : Type} {enc : TypeId × Value → H} {W : World} {base : Nat} {v : Value} {d : DataW H} {p : List MemPlace}
    (hval : Value.okWide Try.prog W .any base 44 v) (h : DataW.Trod enc Try.prog W 0 (fun _ => true) true 44 v d p) :
    ∃ a b : ByteArray, v = .agg #[.string a, .string b] ∧ a.size ≤ maxLen ∧ b.size ≤ maxLen := by
  obtain ⟨c0, c1, y0, y1, n, rfl, _, _, hy0, hy1⟩ := open_agg2 Try.underlying44 (by kernel_rfl) Try.cellsLogin hval h
  obtain ⟨a, e0, _, ha⟩ := DataW.trod_string Try.underlying9 hy0
  obtain ⟨b, e1, _, hb⟩ := DataW.trod_string Try.underlying9 hy1
  simp at e0 e1
  subst e0 e1
  exact ⟨a, b, rfl, ha, hb⟩

theorem toLogin_any (u v : ByteArray) (w : World) : Calls Try.prog 44 #[.agg #[.string u, .string v]] w fun e w' => e = .returned (.agg #[.string u, .string v]) ∧ Below w.heap.size w w' := by
  go_enter Try.func44, Try.ntmps44
  go_wp2
  refine bodyPost_ret (v := .agg #[.string u, .string v]) (by simp [results, Try.results44, go_sem]) rfl ⟨rfl, ?_⟩
  exact (((Below.refl _ _).alloc (Nat.le_refl _) _).alloc (by simp) _).alloc (by simp; omega) _

theorem szLogin_fits (u v : ByteArray) (left : Int) (w : World) (h : (u.size : Int) + v.size ≤ left) (h2 : left ≤ 1048576) :
    Calls Try.prog 42 #[.agg #[.string u, .string v], .int .i64 left] w fun e w' => e = .returned (.int .i64 (left - u.size - v.size)) ∧ Below w.heap.size w w' := by
  have h3 : 0 ≤ left - (u.size : Int) := by omega
  have h4 : 0 ≤ left - (u.size : Int) - (v.size : Int) := by omega
  go_enter Try.func42, Try.ntmps42
  go_wp2
  go_ret
  exact ⟨rfl, (Below.refl _ _).alloc (Nat.le_refl _) _⟩
theorem szLogin_not (u v : ByteArray) (left : Int) (w : World) (h : left < (u.size : Int) + v.size) (h2 : left ≤ 1048576) (h0 : 0 ≤ left) (hu : u.size ≤ maxLen) (hv : v.size ≤ maxLen) :
    Calls Try.prog 42 #[.agg #[.string u, .string v], .int .i64 left] w fun e w' => e = .returned (.int .i64 (-1)) ∧ Below w.heap.size w w' := by
  unfold maxLen at hu hv
  by_cases h3 : left - (u.size : Int) < 0
  · go_enter Try.func42, Try.ntmps42
    go_wp2
    go_ret
    exact ⟨rfl, (Below.refl _ _).alloc (Nat.le_refl _) _⟩
  · have h3' : 0 ≤ left - (u.size : Int) := by omega
    have h4 : left - (u.size : Int) - (v.size : Int) < 0 := by omega
    go_enter Try.func42, Try.ntmps42
    go_wp2
    go_ret
    exact ⟨rfl, (Below.refl _ _).alloc (Nat.le_refl _) _⟩
theorem eqLogin_same (u v : ByteArray) (w : World) : Calls Try.prog 60 #[.agg #[.string u, .string v], .agg #[.string u, .string v]] w fun e w' => e = .returned (.bool true) ∧ Below w.heap.size w w' := by
  go_enter Try.func60, Try.ntmps60
  go_wp2
  go_ret
  exact ⟨rfl, ((Below.refl _ _).alloc (Nat.le_refl _) _).alloc (by simp) _⟩
end Go.Proofs.Yticlgmdmkomdbaa

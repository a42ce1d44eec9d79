/-
  The table of answers, out of a row's laid condition. Conditions: none.
-/
import Derived.Test.YtjnnmihbkieblaaDoorAnsFrom
import Derived.Test.YtjnnmihbkieblaaDoorLaid
import Derived.Lib.SmallJoins
import Derived.Deep.Slices
import Derived.ChangeSame
import Derived.OpenVars
import Derived.ChangeVars
namespace Go.Proofs.YtjnnmihbkieblaaDoor
open Go.ChangeShapes Go.WideShapes Go.ChangeAt Go.RowKit Go.Joins Go.Deep

set_option maxRecDepth 100000 in
/-- What a table of two cells a row holds. -/
theorem Ans.of_head {W : World} {rest : List (String × DataW Unit)} (h : laidMet Tryd.prog (("loop.example/proxyframes/impl.answers", .slice [.agg [.lit (.int .i64 200), .lit (.string [111, 107])], .agg [.lit (.int .i64 403), .lit (.string [110, 111])], .agg [.lit (.int .i64 407), .lit (.string [119, 104, 111])], .agg [.lit (.int .i64 502), .lit (.string [103, 111, 110, 101])]] []) :: rest) W) : Ans W := by
  obtain ⟨ps, ⟨g', t', cs, fuel, p, q, hg', ht', hvar, hd, _, _⟩, _⟩ := h
  obtain rfl := Option.some.inj ((show Tryd.prog.globalNamed "loop.example/proxyframes/impl.answers" = some 0 by kernel_rfl).symm.trans hg')
  obtain rfl := Option.some.inj ((show (Tryd.prog.globals[0]?).map (·.type) = some 39 by kernel_rfl).symm.trans ht')
  rcases DataW.trod_slice (e := 40) Tryd.underlying39 hd with ⟨_, hx⟩ | ⟨A, len, cap, elems, rest', m, _, hcs, hx, _, hl, hcap, hlen, hel, _⟩
  · simp at hx
  simp only [Prod.mk.injEq, DataW.slice.injEq] at hx
  obtain ⟨⟨hE, _⟩, _⟩ := hx
  have el4 : len = 4 := by
    have := congrArg List.length hE
    simp at this
    omega
  subst el4
  have k2 : Tryd.prog.cellsOf 40 = 2 := by kernel_rfl
  have row : ∀ j q, ansL[j]? = some q → W.cell? (A.add (j * 2)) = some (.int .i64 q.1) ∧ W.cell? ((A.add (j * 2)).add 1) = some (.string q.2) := by
    intro j q hq
    have hj : j < 4 := (List.getElem?_eq_some_iff.1 hq).1
    have h1 := hel j hj
    rw [k2] at h1
    have hEj : (elems.map (·.1))[j]? = some (.agg [.lit (.int .i64 q.1), .lit (.string q.2.data.toList)]) := by
      rw [← hE]
      match j, hj, hq with
      | 0, _, hq => injection hq with hq; subst hq; rfl
      | 1, _, hq => injection hq with hq; subst hq; rfl
      | 2, _, hq => injection hq with hq; subst hq; rfl
      | 3, _, hq => injection hq with hq; subst hq; rfl
    rw [List.getElem?_map] at hEj
    cases hy : elems[j]? with
    | none => rw [hy] at hEj; cases hEj
    | some y =>
      rw [hy] at h1 hEj
      simp only [Option.map_some, Option.some.injEq] at hEj
      simp only [Option.bind_eq_some_iff] at h1
      obtain ⟨c1, hc1, hy1⟩ := h1
      obtain ⟨_, hlen', hcell⟩ := World.cells?_some hc1
      obtain ⟨y0, y1, n', hyy, _, h0, h1'⟩ := trod_struct2 Tryd.underlying40 hy1
      obtain ⟨z0, e0, x0, _⟩ := DataW.trod_int Tryd.underlying3 h0
      obtain ⟨s1, e1, x1, _⟩ := DataW.trod_string Tryd.underlying9 h1'
      match c1, hlen' with
      | [u0, u1], _ =>
        have k1 : Tryd.prog.cellsOf 9 = 1 := by kernel_rfl
        have k1i : Tryd.prog.cellsOf 3 = 1 := by kernel_rfl
        simp [k1, k1i] at e0 e1
        subst e0 e1
        have q0 := hcell 0 (by omega)
        have q1 := hcell 1 (by omega)
        rw [hyy, x0, x1] at hEj
        simp at hEj
        obtain ⟨hz, hs⟩ := hEj
        have hs' : s1 = q.2 := ByteArray.ext hs
        subst hz hs'
        exact ⟨by simpa [Addr.add] using q0, by simpa using q1⟩
  obtain ⟨b, off, spot⟩ := A
  have h0 := (row 0 _ rfl).1
  have hspot : spot = none := by simpa [Addr.add] using World.cell?_spot h0
  subst hspot
  have hv := World.var?_cell hg' hvar 0
  have hcs' : cs = #[.slice (some ⟨b, off, none⟩) 4 cap] := Array.ext' hcs
  rw [hcs'] at hv
  have hv' : W.cell? ⟨0, 0, none⟩ = some (.slice (some ⟨b, off, none⟩) 4 cap) := by simpa using hv
  refine ⟨b, off, cap, by simpa [Addr.add] using World.block_lt_of_cell? W _ h0, World.block_lt_of_cell? W _ hv', hl, by unfold maxLen at hcap; omega, hv', fun j q hq => ?_⟩
  have h1 := row j q hq
  rw [addr_add, addr_add] at h1
  exact h1
set_option maxRecDepth 100000 in
theorem Ans.of_laid {W : World} {a b p : String × DataW Unit} {rest : List (String × DataW Unit)} (L : List (String × DataW Unit)) (hl : L = a :: b :: p :: ("loop.example/proxyframes/impl.answers", .slice [.agg [.lit (.int .i64 200), .lit (.string [111, 107])], .agg [.lit (.int .i64 403), .lit (.string [110, 111])], .agg [.lit (.int .i64 407), .lit (.string [119, 104, 111])], .agg [.lit (.int .i64 502), .lit (.string [103, 111, 110, 101])]] []) :: rest) (h : laidMet Tryd.prog L W) : Ans W := by
  subst hl
  exact Ans.of_head h.tail.tail.tail
set_option maxRecDepth 100000 in
theorem Ans.of_laid6 {W : World} {a b p c d e : String × DataW Unit} {rest : List (String × DataW Unit)} (L : List (String × DataW Unit)) (hl : L = a :: b :: p :: c :: d :: e :: ("loop.example/proxyframes/impl.answers", .slice [.agg [.lit (.int .i64 200), .lit (.string [111, 107])], .agg [.lit (.int .i64 403), .lit (.string [110, 111])], .agg [.lit (.int .i64 407), .lit (.string [119, 104, 111])], .agg [.lit (.int .i64 502), .lit (.string [103, 111, 110, 101])]] []) :: rest) (h : laidMet Tryd.prog L W) : Ans W := by
  subst hl
  exact Ans.of_head h.tail.tail.tail.tail.tail.tail
end Go.Proofs.YtjnnmihbkieblaaDoor

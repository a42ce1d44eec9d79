/-
  The table of powers of ten, out of a row's laid condition. Conditions: none.
-/
import Derived.Test.YtpcflkdeoafpeaaDoorTab
import Derived.Test.YtpcflkdeoafpeaaDoorKitC
import Derived.Lib.LaidTab
import Derived.Stop.LaidErr
namespace Go.Proofs.YtpcflkdeoafpeaaDoor
open Go.RowKit

theorem Tabs.of_laid {W : World} {a b : String × DataW Unit} {rest : List (String × DataW Unit)} (L : List (String × DataW Unit)) (hl : L = a :: b :: ("internal/strconv.uint64pow10", Lib.tabData .u64 Lib.pow10Tab) :: rest) (h : laidMet Tryd.prog L W) : Tabs W := by
  subst hl
  exact Lib.tabIs_of_head (g := 0) (t := 107) (e := 97) (n := 20) (by kernel_rfl) (by kernel_rfl) (by kernel_rfl) (by kernel_rfl) (by kernel_rfl) (by kernel_rfl) h.tail.tail
end Go.Proofs.YtpcflkdeoafpeaaDoor

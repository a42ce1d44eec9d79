/-
  What asks for a tunnel, read back: ConnectFrom of the reference, and the drawn text. Conditions: the text is shorter than 2^32 - 15.
-/
import Derived.Test.YtjnnmihbkieblaaDoorAdFromS
import Derived.Test.YtjnnmihbkieblaaDoorConFrom
import Derived.Test.YtjnnmihbkieblaaDoorText92
import Derived.Test.YtjnnmihbkieblaaDoorCtx
namespace Go.Proofs.YtjnnmihbkieblaaDoor
open Go.RowKit Go.Sort

theorem byte_at {s : ByteArray} {j : Nat} (h : j < s.size) : s.data.toList[j]? = some s[j] := by
  have hl : j < s.data.toList.length := by simpa using h
  rw [List.getElem?_eq_getElem hl]
  simp
  rfl
theorem conB_len : conB.data.toList.length = 8 := rfl
end Go.Proofs.YtjnnmihbkieblaaDoor

/-
  The laws' own sameAddress and sameRequest, at two addresses with the same parts. Conditions: the quads read as one list of integers.
-/
import Derived.Test.YtpcflkdeoafpeaaDoorRs
import Derived.Test.YtpcflkdeoafpeaaDoorBlk
namespace Go.Proofs.YtpcflkdeoafpeaaDoor
open Go.RowKit

end Go.Proofs.YtpcflkdeoafpeaaDoor

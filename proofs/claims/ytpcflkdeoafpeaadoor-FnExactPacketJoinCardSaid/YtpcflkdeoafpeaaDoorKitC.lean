/-
  What the closing of a tied card needs, named once. Conditions: none.
-/
import Derived.Test.YtpcflkdeoafpeaaDoorKit
import Derived.Test.YtpcflkdeoafpeaaDoorCards
import Derived.Test.YtpcflkdeoafpeaaDoorTie
import Derived.ProofKit
import Derived.OpenShut
import Derived.LaidMore
import Derived.Lay
import Derived.SevenTiedAt
import Derived.Stop.Joined
namespace Go.Proofs.YtpcflkdeoafpeaaDoor
end Go.Proofs.YtpcflkdeoafpeaaDoor

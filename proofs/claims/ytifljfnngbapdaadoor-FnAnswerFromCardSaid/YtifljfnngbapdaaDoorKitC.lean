/-
  What the closing of a tied card needs, named once. Conditions: none.
-/
import Derived.Test.YtifljfnngbapdaaDoorKit
import Derived.Test.YtifljfnngbapdaaDoorCards
import Derived.Test.YtifljfnngbapdaaDoorTie
import Derived.ProofKit
import Derived.OpenShut
import Derived.LaidMore
import Derived.Lay
import Derived.SevenTiedAt
import Derived.Stop.Joined
namespace Go.Proofs.YtifljfnngbapdaaDoor
end Go.Proofs.YtifljfnngbapdaaDoor

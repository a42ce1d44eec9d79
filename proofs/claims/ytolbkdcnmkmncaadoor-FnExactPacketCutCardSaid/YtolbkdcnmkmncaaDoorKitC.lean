/-
  What the closing of a tied card needs, named once. Conditions: none.
-/
import Derived.Test.YtolbkdcnmkmncaaDoorKit
import Derived.Test.YtolbkdcnmkmncaaDoorCards
import Derived.Test.YtolbkdcnmkmncaaDoorTie
import Derived.ProofKit
import Derived.OpenShut
import Derived.LaidMore
import Derived.Lay
import Derived.SevenTiedAt
import Derived.Stop.Joined
namespace Go.Proofs.YtolbkdcnmkmncaaDoor
end Go.Proofs.YtolbkdcnmkmncaaDoor

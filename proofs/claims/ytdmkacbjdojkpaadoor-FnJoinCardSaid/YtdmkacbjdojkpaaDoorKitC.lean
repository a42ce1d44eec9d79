/-
  What the closing of a tied card needs, named once. Conditions: none.
-/
import Derived.Test.YtdmkacbjdojkpaaDoorKit
import Derived.Test.YtdmkacbjdojkpaaDoorCards
import Derived.Test.YtdmkacbjdojkpaaDoorTie
import Derived.ProofKit
import Derived.OpenShut
import Derived.LaidMore
import Derived.Lay
import Derived.SevenTiedAt
import Derived.Stop.Joined
namespace Go.Proofs.YtdmkacbjdojkpaaDoor
end Go.Proofs.YtdmkacbjdojkpaaDoor

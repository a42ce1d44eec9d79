/-
  What the closing of a tied card needs, named once. Conditions: none.
-/
import Derived.Test.YtahlgdehfjjoeaaDoorKit
import Derived.Test.YtahlgdehfjjoeaaDoorCards
import Derived.Test.YtahlgdehfjjoeaaDoorTie
import Derived.ProofKit
import Derived.OpenShut
import Derived.LaidMore
import Derived.Lay
import Derived.SevenTiedAt
import Derived.Stop.Joined
namespace Go.Proofs.YtahlgdehfjjoeaaDoor
end Go.Proofs.YtahlgdehfjjoeaaDoor

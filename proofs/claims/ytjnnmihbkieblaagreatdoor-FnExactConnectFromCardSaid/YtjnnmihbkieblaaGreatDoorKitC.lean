/-
  What the closing of a tied card needs, named once. Conditions: none.
-/
import Derived.Test.YtjnnmihbkieblaaGreatDoorKit
import Derived.Test.YtjnnmihbkieblaaGreatDoorCards
import Derived.Test.YtjnnmihbkieblaaGreatDoorTie
import Derived.ProofKit
import Derived.OpenShut
import Derived.LaidMore
import Derived.Lay
import Derived.SevenTiedAt
import Derived.Stop.Joined
namespace Go.Proofs.YtjnnmihbkieblaaGreatDoor
end Go.Proofs.YtjnnmihbkieblaaGreatDoor

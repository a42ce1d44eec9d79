/-
  What the closing of a tied card needs, named once. Conditions: none.
-/
import Derived.Test.YtjnnmihbkieblaaDoorKit
import Derived.Test.YtjnnmihbkieblaaDoorCards
import Derived.Test.YtjnnmihbkieblaaDoorTie
import Derived.ProofKit
import Derived.OpenShut
import Derived.LaidMore
import Derived.Lay
import Derived.SevenTiedAt
import Derived.Stop.Joined
namespace Go.Proofs.YtjnnmihbkieblaaDoor
end Go.Proofs.YtjnnmihbkieblaaDoor

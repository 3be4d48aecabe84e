/-
  The reference's Back, Append, Commit.
-/
import Derived.Test.YtjihboddejaelaaGreatTm11
import Derived.Test.YtjihboddejaelaaGreatTm9
import Derived.Test.YtjihboddejaelaaGreatTm1
import Derived.Deep.RegionLaw
import Derived.Test.YtjihboddejaelaaGreatTm7
import Derived.Test.YtjihboddejaelaaGreatTm4
import Derived.Test.YtjihboddejaelaaGreatTm10
import Derived.Test.YtjihboddejaelaaGreatTm6
set_option linter.unusedVariables false
set_option linter.unusedSimpArgs false
set_option linter.defProp false
set_option maxRecDepth 100000
set_option maxHeartbeats 100000000
namespace Go.Proofs.YtjihboddejaelaaGreat
open Go.RowKit Go.BigFrame
attribute [local go_sem] Ea Bz Bq Act.put
end Go.Proofs.YtjihboddejaelaaGreat

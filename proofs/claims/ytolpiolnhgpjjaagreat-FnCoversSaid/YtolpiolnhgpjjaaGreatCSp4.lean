/- The reference's depths of a tree. -/
import Derived.Test.YtolpiolnhgpjjaaGreatCSp2
import Derived.Test.YtolpiolnhgpjjaaGreatCJn8
import Derived.Test.YtolpiolnhgpjjaaGreatCJn6
import Derived.Lib.BitFns
set_option linter.unusedSimpArgs false
set_option linter.unusedVariables false
namespace Go.Proofs.YtolpiolnhgpjjaaGreat
open Go.RowKit
attribute [local go_sem] BW.cell BW.frozen
end Go.Proofs.YtolpiolnhgpjjaaGreat

/- The reference's permuted ports. -/
import Derived.Test.YtdiiggpohcjppaaGreatCJn8
import Derived.Test.YtdiiggpohcjppaaGreatCJn20
import Derived.StillTailTactics
set_option linter.unusedSimpArgs false
set_option linter.unusedVariables false
namespace Go.Proofs.YtdiiggpohcjppaaGreat
open Go.RowKit
end Go.Proofs.YtdiiggpohcjppaaGreat

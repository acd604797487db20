/- The drawing of networks: ports and inputs mixed. -/
import Derived.Test.YtdiiggpohcjppaaGreatCJn19
import Derived.Test.YtdiiggpohcjppaaGreatCNw4
import Derived.Test.YtdiiggpohcjppaaGreatCJn6
import Derived.Test.YtdiiggpohcjppaaGreatCJn8
set_option linter.unusedSimpArgs false
set_option linter.unusedVariables false
namespace Go.Proofs.YtdiiggpohcjppaaGreat
open Go.RowKit
end Go.Proofs.YtdiiggpohcjppaaGreat

/- The reference's permuted ports. -/
import Derived.Test.YtlaahgdikiiahaaCJn10
import Derived.Test.YtlaahgdikiiahaaCJn25
import Derived.StillTailTactics
set_option linter.unusedSimpArgs false
set_option linter.unusedVariables false
namespace Go.Proofs.Ytlaahgdikiiahaa
open Go.RowKit
end Go.Proofs.Ytlaahgdikiiahaa

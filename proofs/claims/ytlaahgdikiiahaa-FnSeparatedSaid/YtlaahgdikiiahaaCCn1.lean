/- The drawing of networks: ports and inputs mixed. -/
import Derived.Test.YtlaahgdikiiahaaCJn24
import Derived.Test.YtlaahgdikiiahaaCNw4
import Derived.Test.YtlaahgdikiiahaaCJn8
import Derived.Test.YtlaahgdikiiahaaCJn10
set_option linter.unusedSimpArgs false
set_option linter.unusedVariables false
namespace Go.Proofs.Ytlaahgdikiiahaa
open Go.RowKit
end Go.Proofs.Ytlaahgdikiiahaa

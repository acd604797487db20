/- Greatest and least numbers, nodes picked by a test, counts: as loops reckon them. Plain facts; no program in sight. -/
import Derived.Test.YtolpiolnhgpjjaaGreatCJn9
import Derived.Lib.Slices
set_option linter.unusedSimpArgs false
set_option linter.unusedVariables false
namespace Go.Proofs.YtolpiolnhgpjjaaGreat
def shl (l : List Int) (D k : Nat) : List Int := tab D fun d => cnt k fun j => gi l j == d
end Go.Proofs.YtolpiolnhgpjjaaGreat

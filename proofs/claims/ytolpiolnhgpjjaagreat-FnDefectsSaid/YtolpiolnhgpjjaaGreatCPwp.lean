/- Greedy colourings and greedy sets by an order; powers of networks. Plain facts. -/
import Derived.Test.YtolpiolnhgpjjaaGreatCMtr2
import Derived.Test.YtolpiolnhgpjjaaGreatCJn7
import Derived.Test.YtolpiolnhgpjjaaGreatCDbf
import Derived.Test.YtolpiolnhgpjjaaGreatCJn9
import Derived.Test.YtolpiolnhgpjjaaGreatCDpg
set_option linter.unusedSimpArgs false
set_option linter.unusedVariables false
namespace Go.Proofs.YtolpiolnhgpjjaaGreat
def atL (out ws : List Int) : List Int := ws.map fun w => gi out w.toNat
theorem Nf (out ws : List Int) (w : Int) : atL out (ws ++ [w]) = atL out ws ++ [gi out w.toNat] := by simp [atL]
theorem Ig (out ws : List Int) : (atL out ws).length = ws.length := by simp [atL]
section
variable {nb nb' : Nat → List Int} {ord : List Int} {n : Nat}
end
section
variable {N : Net} {k : Nat}
end
end Go.Proofs.YtolpiolnhgpjjaaGreat

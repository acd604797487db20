/- laws.qOrder over data -/
import Derived.Test.YtolpiolnhgpjjaaGreatCJn23
import Derived.Test.YtolpiolnhgpjjaaGreatCNob
import Derived.Test.YtolpiolnhgpjjaaGreatCJn37
import Derived.Test.YtolpiolnhgpjjaaGreatCJn26
set_option linter.unusedSimpArgs false
set_option linter.unusedVariables false
namespace Go.Proofs.YtolpiolnhgpjjaaGreat
open Go Go.RowKit
theorem Dv {l : List Int} {m : Nat} : gb l 0 m = l.take m := by simp [gb]
theorem Qj {l : List Int} {m n : Nat} (h : n = l.length) : gb l m n = l.drop m := by
 subst h;unfold gb;exact List.take_of_length_le (by simp)
theorem i7 (l : List Int) (i j : Nat) : gb (l.map iC) i j = (gb l i j).map iC := by
 unfold gb;rw [List.map_take, List.map_drop]
end Go.Proofs.YtolpiolnhgpjjaaGreat

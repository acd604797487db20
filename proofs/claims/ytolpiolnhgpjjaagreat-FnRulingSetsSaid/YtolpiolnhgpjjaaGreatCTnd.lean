/- (*spec.l1Cur).twoNodes over data -/
import Derived.Test.YtolpiolnhgpjjaaGreatCJn19
import Derived.Test.YtolpiolnhgpjjaaGreatCJn29
import Derived.Test.YtolpiolnhgpjjaaGreatCJn23
import Derived.Test.YtolpiolnhgpjjaaGreatCJn11
import Derived.Test.YtolpiolnhgpjjaaGreatCDpg
set_option linter.unusedSimpArgs false
set_option linter.unusedVariables false
namespace Go.Proofs.YtolpiolnhgpjjaaGreat
open Go Go.RowKit
theorem Oa {n : Nat} (hn : n ≤ 60) : Tame (lv n n) :=
 ⟨by rw [Ku]; omega, fun a => by
  unfold dg gl
  rcases Nat.lt_or_ge a n with h | h
  ·simp [lv, h, Dt]
  ·simp [lv, h], by simp [lv], by simp [lv]; omega⟩
end Go.Proofs.YtolpiolnhgpjjaaGreat

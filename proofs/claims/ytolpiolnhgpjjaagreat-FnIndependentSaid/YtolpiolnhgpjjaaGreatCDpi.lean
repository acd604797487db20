/- The program's helpers on views, over data: IsNetwork, hasNode, nodesOk, Max, classCount -/
import Derived.Test.YtolpiolnhgpjjaaGreatCJn22
import Derived.Test.YtolpiolnhgpjjaaGreatCShelf
import Derived.Test.YtolpiolnhgpjjaaGreatCJn24
import Derived.Test.YtolpiolnhgpjjaaGreatCDt
import Derived.Test.YtolpiolnhgpjjaaGreatCSp2
import Derived.Test.YtolpiolnhgpjjaaGreatCJn9
import Derived.Test.YtolpiolnhgpjjaaGreatCDpg
import Derived.Test.YtolpiolnhgpjjaaGreatCJn23
import Derived.Test.YtolpiolnhgpjjaaGreatCJn31
import Derived.Test.YtolpiolnhgpjjaaGreatCJn35
import Derived.Test.YtolpiolnhgpjjaaGreatCDmm
set_option linter.unusedSimpArgs false
set_option linter.unusedVariables false
namespace Go.Proofs.YtolpiolnhgpjjaaGreat
open Go Go.RowKit
theorem Rp (xs : List Int) (hp : 0 < xs.length) (h0 : ∀ x ∈ xs, 0 ≤ x) : Lib.maxOf xs + 1 = i7 xs := by
 have key : ∀ (zs : List Int) (a : Int), zs.foldl max a + 1 = zs.foldl (fun n k => mst n (k + 1)) (a + 1) := by
  intro zs
  induction zs with
  | nil => intro a; rfl
  | cons z zs ih =>
   intro a;simp only [List.foldl_cons];rw [ih]
   congr 1
   unfold mst;split <;> omega
 match xs, hp with
 | z :: zs, _ =>
  have hm : Lib.maxOf (z :: zs) = zs.foldl max z := by simp [Lib.maxOf]
  rw [hm, key];unfold i7;simp only [List.foldl_cons]
  congr 1
  have := h0 z List.mem_cons_self;unfold mst;split <;> omega
end Go.Proofs.YtolpiolnhgpjjaaGreat

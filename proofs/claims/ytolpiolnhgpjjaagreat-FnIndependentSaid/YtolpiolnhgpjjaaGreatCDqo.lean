/- laws.qOrder over data -/
import Derived.Test.YtolpiolnhgpjjaaGreatCJn27
import Derived.Test.YtolpiolnhgpjjaaGreatCDcu
import Derived.Test.YtolpiolnhgpjjaaGreatCJn19
import Derived.Test.YtolpiolnhgpjjaaGreatCJn9
import Derived.Test.YtolpiolnhgpjjaaGreatCJn7
import Derived.Test.YtolpiolnhgpjjaaGreatCNw1
import Derived.Test.YtolpiolnhgpjjaaGreatCNw3
import Derived.Test.YtolpiolnhgpjjaaGreatCJn41
import Derived.Test.YtolpiolnhgpjjaaGreatCJn31
import Derived.StillTailTactics
set_option linter.unusedSimpArgs false
set_option linter.unusedVariables false
namespace Go.Proofs.YtolpiolnhgpjjaaGreat
open Go Go.RowKit
theorem uj {xs : List Int} {n : Nat} (h : xs.Perm (ez n)) : ff xs n = true := by
 have hl : xs.length = n := by rw [h.length_eq, ej]
 have hn : xs.Nodup := h.symm.nodup (Ao n)
 have key : jr xs n xs.length := fun i hi => by
  have h1 := vv.1 (h.subset (List.getElem_mem hi));refine ⟨ec.2 (by rw [bo hi]; omega), ?_⟩;rw [ju];intro j hj he;rw [List.length_take] at hj;have hji : j < i := by omega
  have h2 : gi xs j = gi xs i := by
   rw [← he]; unfold gi; simp [List.getElem?_take, hji]
  rw [bo (by omega), bo hi] at h2;exact List.pairwise_iff_getElem.1 hn j i (by omega) hi hji h2
 simp only [ff, Bool.and_eq_true, decide_eq_true_eq];exact ⟨key, hl⟩
theorem Cg {l : List Int} {m : Nat} : jc l 0 m = l.take m := by simp [jc]
theorem Se {l : List Int} {m n : Nat} (h : n = l.length) : jc l m n = l.drop m := by
 subst h;unfold jc;exact List.take_of_length_le (by simp)
theorem jz (l : List Int) (i j : Nat) : jc (l.map iC) i j = (jc l i j).map iC := by
 unfold jc;rw [List.map_take, List.map_drop]
end Go.Proofs.YtolpiolnhgpjjaaGreat

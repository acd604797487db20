/- Rows of a network's ends that turn; neEmpty over data -/
import Derived.Test.YtdiiggpohcjppaaGreatCJn24
import Derived.Test.YtdiiggpohcjppaaGreatCJn26
import Derived.Test.YtdiiggpohcjppaaGreatCDt
import Derived.Test.YtdiiggpohcjppaaGreatCNw3
set_option linter.unusedSimpArgs false
set_option linter.unusedVariables false
namespace Go.Proofs.YtdiiggpohcjppaaGreat
open Go Go.RowKit
theorem rowes {t2 : TypeId} {ess : List (List (Int × Int))} {k : Nat} (h : k < ess.length) : rowC (ess.map (esC t2)) k 0 = some (.sl true t2 2 ((gl ess k).map eC)) := rowC_some.2 ⟨_, by rw [List.getElem?_map, List.getElem?_eq_getElem h]; rfl, by rw [esC, gl_lt h]; rfl⟩
theorem neEmpty_d (n : Nat) (hn : n ≤ 1000) : DCalls Tryz.prog 141 [.c (.p (.int .i64 n))] (fun r => r = [.own true (netO (emptyN n))]) := dcalls_nt fun w vs h1 h2 => by
 obtain ⟨u, rfl, g1⟩ := args1 h1 h2
 rw [argI g1]
 exact neEmpty_any n w (by omega)
theorem rowesm {t2 : TypeId} {ess : List (List (Int × Int))} {k : Nat} {y : C} (h : k < ess.length) : rowC ((ess.map (esC t2)).modify k fun row => row.modify 0 fun _ => y) k 0 = some y := rowC_some.2 ⟨[y], by simp [List.getElem?_modify, List.getElem?_eq_getElem h, esC], rfl⟩
theorem es_put3 {t2 : TypeId} {ess : List (List (Int × Int))} {k : Nat} {es : List (Int × Int)} : ((((ess.map (esC t2)).modify k fun row => row.modify 0 fun _ => C.hole).modify k fun row => row.modify 0 fun _ => C.hole).modify k fun row => row.modify 0 fun _ => C.sl true t2 2 (es.map eC)) = (ess.set k es).map (esC t2) := by
 apply List.ext_getElem?
 intro i
 simp only [List.getElem?_modify, List.getElem?_map, List.getElem?_set]
 by_cases h : k = i
 ·subst h
  by_cases hk : k < ess.length
  ·simp [List.getElem?_eq_getElem hk, hk, esC]
  ·simp [List.getElem?_eq_none (Nat.le_of_not_lt hk), hk]
 ·simp [h]
end Go.Proofs.YtdiiggpohcjppaaGreat

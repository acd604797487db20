/- spec.l1Own over data -/
import Derived.Test.YtdiiggpohcjppaaGreatCJn22
import Derived.Test.YtdiiggpohcjppaaGreatCDt
set_option linter.unusedSimpArgs false
set_option linter.unusedVariables false
namespace Go.Proofs.YtdiiggpohcjppaaGreat
open Go Go.RowKit
def zBDlo1 := PLift.up (And.intro bb (And.intro cl (And.intro @if_pos.{1} (And.intro @b7 @trivial))))
theorem Xt : type_of% zBDlo1.down := zBDlo1.down
set_option maxRecDepth 8000 in
set_option maxHeartbeats 0 in
theorem Ma (o : Bool) (t : TypeId) (xs : List Int) (hn : xs.length ≤ 1000000) : DCalls Tryz.prog 129 [.c (.sl o t 1 (xs.map iC))] (fun r => r = [.own false [.sl true 3 1 (xs.map iC)]]) := by -- params []int
 refine ao Tryz.func129 rfl (by rw [Tryz.ntmps129]; simp) fun w0 => ?_
 rw [Tryz.ntmps129]
 have dfx := Xt
 simp only [ce, be, Arg.av, bv, cm, ints, ends]
 refine ab (dwR fun K hK => ?_)
 repeat refine evF ?_
 refine aa (hK _ (dwK [0] ?_))
 clear hK K
 refine ab (dwR fun K hK => ?_)
 repeat refine evF ?_
 refine aa (hK _ (dwK [2] ?_))
 clear hK K
 exact ak (aq Tryz.results129 (.one (.own _ _ _ _ rfl rfl (own1 (cq _ _)))) (by decide) rfl)
end Go.Proofs.YtdiiggpohcjppaaGreat

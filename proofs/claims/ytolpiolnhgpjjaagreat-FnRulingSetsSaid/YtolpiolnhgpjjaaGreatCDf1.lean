/- Defective colourings, over data: oneIf portsWith ruSame areColours ruColours IsDefective (both) -/
import Derived.Test.YtolpiolnhgpjjaaGreatCJn41
import Derived.Test.YtolpiolnhgpjjaaGreatCJn15
import Derived.Test.YtolpiolnhgpjjaaGreatCJn7
import Derived.Test.YtolpiolnhgpjjaaGreatCJn19
import Derived.Test.YtolpiolnhgpjjaaGreatCShelf
import Derived.Test.YtolpiolnhgpjjaaGreatCJn9
import Derived.Test.YtolpiolnhgpjjaaGreatCMtr2
import Derived.Test.YtolpiolnhgpjjaaGreatCJn26
import Derived.Test.YtolpiolnhgpjjaaGreatCJn21
set_option linter.unusedSimpArgs false
set_option linter.unusedVariables false
namespace Go.Proofs.YtolpiolnhgpjjaaGreat
open Go Go.RowKit
def zBDf11 := PLift.up (And.intro ap (And.intro bc (And.intro b9 (And.intro bg (And.intro ay (And.intro @if_pos.{1} (And.intro @b6 (And.intro @bq (And.intro @ba (And.intro @a8 @trivial))))))))))
theorem V0 : type_of% zBDf11.down := zBDf11.down
set_option maxRecDepth 8000 in
set_option maxHeartbeats 0 in
theorem Kb (b : Bool) : DCalls Tryz.prog 113 [.c (.p (.bool b))] (fun r => r = [.c (.p (.int .i64 (if b = true then 1 else 0)))]) := by
 refine am Tryz.func113 rfl (by rw [Tryz.ntmps113]; simp) fun w0 => ?_;rw [Tryz.ntmps113];have dX := V0;simp only [b4, bd, Arg.av, bi, b7, ints, ends];refine ab (dR fun K hK => ?_);(repeat refine eV ?_);refine aa (hK _ (wK [0] ?_));clear hK K;refine ab ?_
 cases b with
 | true =>
  refine ab (dR fun K hK => ?_);(repeat refine eV ?_);refine aa (hK _ (wK [3] ?_));clear hK K;refine dI ?_ ?_<;>intro hb
  ·refine ab (dR fun K hK => ?_);(repeat refine eV ?_);refine aa (hK _ (wK [2] ?_));clear hK K;exact ak (an Tryz.results113 (.one (.plain _ _ rfl)) (by decide) rfl)
  ·cases hb
 | false =>
  refine ab (dR fun K hK => ?_);(repeat refine eV ?_);refine aa (hK _ (wK [3] ?_));clear hK K;refine dI ?_ ?_<;>intro hb
  ·cases hb
  ·refine af ?_;show DW _ _ _ _ _;refine ab (dR fun K hK => ?_);(repeat refine eV ?_);refine aa (hK _ (wK [2] ?_));clear hK K;exact ak (an Tryz.results113 (.one (.plain _ _ rfl)) (by decide) rfl)
end Go.Proofs.YtolpiolnhgpjjaaGreat

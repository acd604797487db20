/- impl.network, spec.neIf, impl.copyNetwork, laws.qNetwork over data -/
import Derived.Test.YtolpiolnhgpjjaaGreatCJn26
import Derived.Test.YtolpiolnhgpjjaaGreatCJn39
import Derived.Test.YtolpiolnhgpjjaaGreatCJn28
import Derived.Test.YtolpiolnhgpjjaaGreatCJn24
import Derived.Test.YtolpiolnhgpjjaaGreatCJn8
import Derived.Test.YtolpiolnhgpjjaaGreatCJn33
import Derived.Test.YtolpiolnhgpjjaaGreatCJn6
import Derived.Test.YtolpiolnhgpjjaaGreatCMk
set_option linter.unusedSimpArgs false
set_option linter.unusedVariables false
namespace Go.Proofs.YtolpiolnhgpjjaaGreat
set_option maxHeartbeats 0
set_option maxRecDepth 8000
open Go Go.RowKit
def Eg : Net := ⟨[], [], []⟩
noncomputable def okN (P : Net) : Net := if bm P = true then P else Eg
def zBDpq1 := PLift.up (And.intro ap (And.intro bh (And.intro ce (And.intro bl (And.intro az (And.intro @if_pos.{1} (And.intro @b7 (And.intro be (And.intro @dm (And.intro @dl (And.intro @bz (And.intro @bq (And.intro @bt @trivial)))))))))))))
theorem O9 : type_of% zBDpq1.down := zBDpq1.down
theorem Kk (P : Net) (hi : P.ids.length ≤ 2097152) : ql Tryz.prog 139 true (netO P) [] (fun r => r = [.own true (netO (okN P)), .c (.p (.bool (bm P)))]) := by
 refine Be Tryz.func139 rfl (by rw [Tryz.ntmps139]; simp) fun w0 => ?_;rw [Tryz.ntmps139];have dX := O9;simp only [ut, bc, Arg.av, netO, List.length_cons, List.length_nil, Nat.reduceAdd];refine ab (dR fun K hK => ?_);(repeat refine eV ?_);refine aa (hK _ (wK [1, 2] ?_));clear hK K;refine ab ?_;refine ab (dR fun K hK => ?_);(repeat refine eV ?_);refine cL rfl ⟨rfl, _, rfl⟩ (by omega) (by first | exact At) (i5 NFo P hi) ?_;rintro _ rfl;(repeat refine eV ?_);obtain hg | hg := Bool.eq_false_or_eq_true (bm P)
 ·have dX := And.intro dX (@hg);(repeat refine eV ?_);have dK := @hg;refine aa (hK _ (ay [1, 2, 6] ?_));clear hK K;refine dI ?_ ?_<;>intro hb
  ·cases hb
  ·refine af ?_;show DW _ _ _ _ _;refine ab (dR fun K hK => ?_);(repeat refine eV ?_);refine aa (hK _ (wK [2, 3] ?_));clear hK K;exact ak (aq Tryz.results139 (.two (.cell 2 _ _ _ _ rfl rfl ap rfl rfl (au _)) (.plain _ _ rfl)) (by decide) (by rw [okN, if_pos hg, hg]))
 ·have dX := And.intro dX (@hg);(repeat refine eV ?_);have dK := @hg;refine aa (hK _ (ay [1, 2, 6] ?_));clear hK K;refine dI ?_ ?_<;>intro hb
  ·refine ab (dR fun K hK => ?_);(repeat refine eV ?_);refine aa (hK _ (wK [2, 3] ?_));clear hK K;refine cq 2 0 103 1 (by decide) rfl rfl [2, 3] (by simp only [ac, pZ, simprocAttr, List.modify_zero_cons, List.modify_succ_cons]; exact rfl) ?_;refine cq 2 1 3 1 (by decide) rfl rfl [2, 3] (by simp only [ac, pZ, simprocAttr, List.modify_zero_cons, List.modify_succ_cons]; exact rfl) ?_;refine cq 2 2 3 1 (by decide) rfl rfl [2, 3] (by simp only [ac, pZ, simprocAttr, List.modify_zero_cons, List.modify_succ_cons]; exact rfl) ?_;exact ak (aq Tryz.results139 (.two (.cell 2 _ _ _ _ rfl rfl ap rfl rfl (au Eg)) (.plain _ _ rfl)) (by decide) (by rw [okN, if_neg (by rw [hg]; decide), hg]; rfl))
  ·cases hb
theorem Tt (P : Net) : ql Tryz.prog 181 true (netO P) [] (fun r => r = [.own true (netO (okN P)), .c (.p (.bool (bm P)))]) := by
 refine Be Tryz.func181 rfl (by rw [Tryz.ntmps181]; simp) fun w0 => ?_;rw [Tryz.ntmps181];have dX := O9;simp only [ut, bc, Arg.av, netO, List.length_cons, List.length_nil, Nat.reduceAdd];refine ab (dR fun K hK => ?_);(repeat refine eV ?_);refine aa (hK _ (wK [1, 2] ?_));clear hK K;refine ab ?_;refine ab (dR fun K hK => ?_);(repeat refine eV ?_);refine cL rfl ⟨rfl, _, rfl⟩ (by omega) (by first | exact I6) (rn NFo P) ?_;rintro _ rfl;(repeat refine eV ?_);obtain hg | hg := Bool.eq_false_or_eq_true (bm P)
 ·have dX := And.intro dX (@hg);(repeat refine eV ?_);have dK := @hg;refine aa (hK _ (ay [1, 2, 6] ?_));clear hK K;refine dI ?_ ?_<;>intro hb
  ·cases hb
  ·refine af ?_;show DW _ _ _ _ _;refine ab (dR fun K hK => ?_);(repeat refine eV ?_);refine aa (hK _ (wK [2, 3] ?_));clear hK K;exact ak (aq Tryz.results181 (.two (.cell 2 _ _ _ _ rfl rfl ap rfl rfl (au _)) (.plain _ _ rfl)) (by decide) (by rw [okN, if_pos hg, hg]))
 ·have dX := And.intro dX (@hg);(repeat refine eV ?_);have dK := @hg;refine aa (hK _ (ay [1, 2, 6] ?_));clear hK K;refine dI ?_ ?_<;>intro hb
  ·refine ab (dR fun K hK => ?_);(repeat refine eV ?_);refine aa (hK _ (wK [2, 3] ?_));clear hK K;refine cq 2 0 103 1 (by decide) rfl rfl [2, 3] (by simp only [ac, pZ, simprocAttr, List.modify_zero_cons, List.modify_succ_cons]; exact rfl) ?_;refine cq 2 1 3 1 (by decide) rfl rfl [2, 3] (by simp only [ac, pZ, simprocAttr, List.modify_zero_cons, List.modify_succ_cons]; exact rfl) ?_;refine cq 2 2 3 1 (by decide) rfl rfl [2, 3] (by simp only [ac, pZ, simprocAttr, List.modify_zero_cons, List.modify_succ_cons]; exact rfl) ?_;exact ak (aq Tryz.results181 (.two (.cell 2 _ _ _ _ rfl rfl ap rfl rfl (au Eg)) (.plain _ _ rfl)) (by decide) (by rw [okN, if_neg (by rw [hg]; decide), hg]; rfl))
  ·cases hb
end Go.Proofs.YtolpiolnhgpjjaaGreat

/- impl.IsConnected over data -/
import Derived.Test.YtfemnfpbdbbacaaGreatCJn40
import Derived.Test.YtfemnfpbdbbacaaGreatCDcv
import Derived.Test.YtfemnfpbdbbacaaGreatCJn23
import Derived.Test.YtfemnfpbdbbacaaGreatCDix
import Derived.Test.YtfemnfpbdbbacaaGreatCJn13
import Derived.Test.YtfemnfpbdbbacaaGreatCJn35
set_option linter.unusedSimpArgs false
set_option linter.unusedVariables false
namespace Go.Proofs.YtfemnfpbdbbacaaGreat
open Go Go.RowKit
def zBDwx1 := PLift.up (And.intro ap (And.intro a7 (And.intro b4 (And.intro bl (And.intro bw (And.intro @if_pos.{1} (And.intro @bt (And.intro b6 (And.intro @cg (And.intro @cf (And.intro @bi (And.intro @b8 (And.intro @ce @trivial)))))))))))))
theorem Y1 : type_of% zBDwx1.down := zBDwx1.down
set_option maxRecDepth 8000 in
set_option maxHeartbeats 0 in
theorem ry (f : NF) (N : Net) (hg : bb N = true) {a : Nat} (ha : a < N.ends.length) : DCalls Tryz.prog 15 [.agg (br f N)] (fun r => r = [.c (.p (.bool (em N a))), .c (.p (.bool true))]) := by
 have hids : N.ids.length ≤ 2097152 := by have := Ie hg; omega
 refine ao Tryz.func15 rfl (by rw [Tryz.ntmps15]; simp) fun w0 => ?_;rw [Tryz.ntmps15];have dX := Y1;simp only [b7, bf, Arg.av, br, ch, ints, ends];refine ab (dR fun K hK => ?_);(repeat refine eV ?_);refine aa (hK _ (wK [1] ?_));clear hK K;refine ab ?_;refine ab (dR fun K hK => ?_);(repeat refine eV ?_);refine cL rfl ⟨rfl, _, rfl⟩ (by omega) (by first | exact jw) (eg ⟨false, f.t1, f.o2, f.t2, false, f.t3, false, f.t4⟩ N hids) ?_;rintro _ rfl;(repeat refine eV ?_);have dK := @hg;refine aa (hK _ (az [1, 6] ?_));clear hK K;refine dI ?_ ?_<;>intro hb
 ·cases hb
 ·refine ah ?_;show DW _ _ _ _ _;refine ab (dR fun K hK => ?_);(repeat refine eV ?_);refine cL rfl ⟨rfl, _, rfl⟩ (by omega) (by first | exact pg) (fu ⟨false, f.t1, f.o2, f.t2, false, f.t3, false, f.t4⟩ N hg ha) ?_;rintro _ rfl;(repeat refine eV ?_);refine aa (hK _ (wK [2, 3] ?_));clear hK K;exact aj (am Tryz.results15 (.two (.plain _ _ rfl) (.plain _ _ rfl)) (by decide) rfl)
end Go.Proofs.YtfemnfpbdbbacaaGreat

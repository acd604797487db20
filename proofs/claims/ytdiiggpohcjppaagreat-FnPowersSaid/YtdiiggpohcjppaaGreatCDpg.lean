/- Whether a network is one, whether a node is in it: earlier contracts, over data -/
import Derived.Test.YtdiiggpohcjppaaGreatCJn22
import Derived.Test.YtdiiggpohcjppaaGreatCIm4
import Derived.Test.YtdiiggpohcjppaaGreatCJn10
set_option linter.unusedSimpArgs false
set_option linter.unusedVariables false
namespace Go.Proofs.YtdiiggpohcjppaaGreat
open Go Go.RowKit
theorem f6 (f : NF) (N : Net) (hi : N.ids.length ≤ 2097152) : DCalls Tryz.prog 55 [.agg (bv f N)] (fun r => r = [.c (.p (.bool (bz N)))]) := jn fun w vs h1 h2 => by
 obtain ⟨u, rfl, g1⟩ := Bx h1 h2
 exact Cu u N w (Sw g1) hi
theorem Rv (a b c : Int) : DCalls Tryz.prog 80 [.c (.p (.int .i64 a)), .c (.p (.int .i64 b)), .c (.p (.int .i64 c))] (fun r => r = [.c (.p (.bool (inB a b c)))]) := jn fun w vs h1 h2 => by
 obtain ⟨u, v, t, rfl, g1, g2, g3⟩ := Vy h1 h2
 rw [Cq g1, Cq g2, Cq g3]
 exact (dy a b c w).mono fun _ _ h => RetQ.v h
theorem Hh (f : NF) (N : Net) : DCalls Tryz.prog 71 [.agg (bv f N)] (fun r => r = [.c (.p (.bool (bz N)))]) := jn fun w vs h1 h2 => by
 obtain ⟨u, rfl, g1⟩ := Bx h1 h2
 exact Jw u N w (Sw g1)
end Go.Proofs.YtdiiggpohcjppaaGreat

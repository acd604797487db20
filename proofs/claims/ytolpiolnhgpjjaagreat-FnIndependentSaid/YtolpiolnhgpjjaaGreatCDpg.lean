/- Whether a network is one, whether a node is in it: earlier contracts, over data -/
import Derived.Test.YtolpiolnhgpjjaaGreatCJn22
import Derived.Test.YtolpiolnhgpjjaaGreatCJn35
import Derived.Test.YtolpiolnhgpjjaaGreatCSp2
import Derived.Test.YtolpiolnhgpjjaaGreatCJn9
set_option linter.unusedSimpArgs false
set_option linter.unusedVariables false
namespace Go.Proofs.YtolpiolnhgpjjaaGreat
open Go Go.RowKit
theorem jo (f : NF) (N : Net) (hi : N.ids.length ≤ 2097152) : DCalls Tryz.prog 55 [.agg (bw f N)] (fun r => r = [.c (.p (.bool (bn N)))]) := iv fun w vs h1 h2 => by
 obtain ⟨u, rfl, g1⟩ := Ey h1 h2;exact De u N w (Xh g1) hi
theorem Wp (a b c : Int) : DCalls Tryz.prog 98 [.c (.p (.int .i64 a)), .c (.p (.int .i64 b)), .c (.p (.int .i64 c))] (fun r => r = [.c (.p (.bool (inB a b c)))]) := iv fun w vs h1 h2 => by
 obtain ⟨u, v, t, rfl, g1, g2, g3⟩ := Ni h1 h2;rw [yn g1, yn g2, yn g3];exact (eq a b c w).mono fun _ _ h => RetQ.v h
theorem l6 (f : NF) (N : Net) : DCalls Tryz.prog 57 [.agg (bw f N)] (fun r => r = [.c (.p (.bool (bn N)))]) := iv fun w vs h1 h2 => by
 obtain ⟨u, rfl, g1⟩ := Ey h1 h2;exact Kf u N w (Xh g1)
end Go.Proofs.YtolpiolnhgpjjaaGreat

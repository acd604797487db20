/- Whether a network is one, whether a node is in it: earlier contracts, over data -/
import Derived.Test.YtolpiolnhgpjjaaGreatCJn19
import Derived.Test.YtolpiolnhgpjjaaGreatCIm4
import Derived.Test.YtolpiolnhgpjjaaGreatCSp2
import Derived.Test.YtolpiolnhgpjjaaGreatCJn9
set_option linter.unusedSimpArgs false
set_option linter.unusedVariables false
namespace Go.Proofs.YtolpiolnhgpjjaaGreat
open Go Go.RowKit
theorem d7 (f : NF) (N : Net) (hi : N.ids.length ≤ 2097152) : DCalls Tryz.prog 55 [.agg (bj f N)] (fun r => r = [.c (.p (.bool (bn N)))]) := jj fun w vs h1 h2 => by
 obtain ⟨u, rfl, g1⟩ := Ef h1 h2;exact yw u N w (Sh g1) hi
theorem Fp (a b c : Int) : DCalls Tryz.prog 98 [.c (.p (.int .i64 a)), .c (.p (.int .i64 b)), .c (.p (.int .i64 c))] (fun r => r = [.c (.p (.bool (inB a b c)))]) := jj fun w vs h1 h2 => by
 obtain ⟨u, v, t, rfl, g1, g2, g3⟩ := Nh h1 h2;rw [uu g1, uu g2, uu g3];exact (dh a b c w).mono fun _ _ h => RetQ.v h
theorem qk (f : NF) (N : Net) : DCalls Tryz.prog 57 [.agg (bj f N)] (fun r => r = [.c (.p (.bool (bn N)))]) := jj fun w vs h1 h2 => by
 obtain ⟨u, rfl, g1⟩ := Ef h1 h2;exact Fj u N w (Sh g1)
end Go.Proofs.YtolpiolnhgpjjaaGreat

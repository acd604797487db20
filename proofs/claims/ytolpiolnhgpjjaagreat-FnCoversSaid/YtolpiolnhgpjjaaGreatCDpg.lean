/- Whether a network is one, whether a node is in it: earlier contracts, over data -/
import Derived.Test.YtolpiolnhgpjjaaGreatCJn21
import Derived.Test.YtolpiolnhgpjjaaGreatCJn33
import Derived.Test.YtolpiolnhgpjjaaGreatCSp2
import Derived.Test.YtolpiolnhgpjjaaGreatCJn8
set_option linter.unusedSimpArgs false
set_option linter.unusedVariables false
namespace Go.Proofs.YtolpiolnhgpjjaaGreat
open Go Go.RowKit
theorem i5 (f : NF) (N : Net) (hi : N.ids.length ≤ 2097152) : DCalls Tryz.prog 55 [.agg (bw f N)] (fun r => r = [.c (.p (.bool (bm N)))]) := r5 fun w vs h1 h2 => by
 obtain ⟨u, rfl, g1⟩ := Fr h1 h2;exact zw u N w (Vh g1) hi
theorem rn (f : NF) (N : Net) : DCalls Tryz.prog 57 [.agg (bw f N)] (fun r => r = [.c (.p (.bool (bm N)))]) := r5 fun w vs h1 h2 => by
 obtain ⟨u, rfl, g1⟩ := Fr h1 h2;exact Gx u N w (Vh g1)
end Go.Proofs.YtolpiolnhgpjjaaGreat

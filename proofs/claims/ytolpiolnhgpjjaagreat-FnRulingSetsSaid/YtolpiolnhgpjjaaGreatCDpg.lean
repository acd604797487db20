/- Whether a network is one, whether a node is in it: earlier contracts, over data -/
import Derived.Test.YtolpiolnhgpjjaaGreatCJn19
import Derived.Test.YtolpiolnhgpjjaaGreatCJn31
import Derived.Test.YtolpiolnhgpjjaaGreatCJn11
set_option linter.unusedSimpArgs false
set_option linter.unusedVariables false
namespace Go.Proofs.YtolpiolnhgpjjaaGreat
open Go Go.RowKit
theorem ez (f : NF) (N : Net) (hi : N.ids.length ≤ 2097152) : DCalls Tryz.prog 55 [.agg (bi f N)] (fun r => r = [.c (.p (.bool (bj N)))]) := ga fun w vs h1 h2 => by
 obtain ⟨u, rfl, g1⟩ := Cm h1 h2;exact Au u N w (Tc g1) hi
theorem Mm (f : NF) (N : Net) (v : Int) (hl : N.ends.length ≤ 2097152) : DCalls Tryz.prog 100 [.agg (bi f N), .c (.p (.int .i64 v))] (fun r => r = [.c (.p (.bool (inB v 0 ((N.ends.length : Int) - 1))))]) := ga fun w vs h1 h2 => by
 obtain ⟨u, v, rfl, g1, g2⟩ := Gr h1 h2;rw [rn g2];obtain ⟨ve, vi, vn, rfl, he, -, -⟩ := Tc g1;obtain ⟨A, c, rfl, -⟩ := he;exact n7 A _ c vi vn _ w (by omega)
theorem uq (a b c : Int) : DCalls Tryz.prog 98 [.c (.p (.int .i64 a)), .c (.p (.int .i64 b)), .c (.p (.int .i64 c))] (fun r => r = [.c (.p (.bool (inB a b c)))]) := ga fun w vs h1 h2 => by
 obtain ⟨u, v, t, rfl, g1, g2, g3⟩ := Qy h1 h2;rw [rn g1, rn g2, rn g3];exact (cz a b c w).mono fun _ _ h => RetQ.v h
theorem ns (f : NF) (N : Net) : DCalls Tryz.prog 57 [.agg (bi f N)] (fun r => r = [.c (.p (.bool (bj N)))]) := ga fun w vs h1 h2 => by
 obtain ⟨u, rfl, g1⟩ := Cm h1 h2;exact H9 u N w (Tc g1)
end Go.Proofs.YtolpiolnhgpjjaaGreat

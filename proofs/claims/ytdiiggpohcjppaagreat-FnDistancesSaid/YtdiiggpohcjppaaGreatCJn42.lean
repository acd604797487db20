/- Parts of the proof, joined: Dpg, Doe. -/
import Derived.Test.YtdiiggpohcjppaaGreatCJn24
import Derived.Test.YtdiiggpohcjppaaGreatCIm4
import Derived.Test.YtdiiggpohcjppaaGreatCJn15
import Derived.Test.YtdiiggpohcjppaaGreatCDt
import Derived.Test.YtdiiggpohcjppaaGreatCJn37
set_option linter.unusedSimpArgs false
set_option linter.unusedVariables false
namespace Go.Proofs.YtdiiggpohcjppaaGreat
section
open Go Go.RowKit
theorem IsNetwork_d (f : NF) (N : Net) (hi : N.ids.length ≤ 2097152) : DCalls Tryz.prog 55 [.agg (netC f N)] (fun r => r = [.c (.p (.bool (goodB N)))]) := dcalls_v fun w vs h1 h2 => by
 obtain ⟨u, rfl, g1⟩ := args1 h1 h2
 exact IsNetwork_any u N w (argN g1) hi
theorem hasNode_d (f : NF) (N : Net) (v : Int) (hl : N.ends.length ≤ 2097152) : DCalls Tryz.prog 56 [.agg (netC f N), .c (.p (.int .i64 v))] (fun r => r = [.c (.p (.bool (inB v 0 ((N.ends.length : Int) - 1))))]) := dcalls_v fun w vs h1 h2 => by
 obtain ⟨u, v, rfl, g1, g2⟩ := args2 h1 h2
 rw [argI g2]
 obtain ⟨ve, vi, vn, rfl, he, -, -⟩ := argN g1
 obtain ⟨A, c, rfl, -⟩ := he
 exact hasNode_any A _ c vi vn _ w (by omega)
theorem neNode_d (f : NF) (N : Net) (v : Int) : DCalls Tryz.prog 60 [.agg (netC f N), .c (.p (.int .i64 v))] (fun r => r = [.c (.p (.bool (nodeB N v)))]) := dcalls_v fun w vs h1 h2 => by
 obtain ⟨u, v, rfl, g1, g2⟩ := args2 h1 h2
 rw [argI g2]
 exact neNode_any u N _ w (argN g1)
theorem neGood_d (f : NF) (N : Net) : DCalls Tryz.prog 71 [.agg (netC f N)] (fun r => r = [.c (.p (.bool (goodB N)))]) := dcalls_v fun w vs h1 h2 => by
 obtain ⟨u, rfl, g1⟩ := args1 h1 h2
 exact neGood_any u N w (argN g1)
end
section
open Go Go.RowKit
theorem hasPort_d (f : NF) (N : Net) (x i : Int) : DCalls Tryz.prog 63 [.agg (netC f N), .c (.p (.int .i64 x)), .c (.p (.int .i64 i))] (fun r => r = [.c (.p (.bool (portB N x i)))]) := dcalls_v fun w vs h1 h2 => by
 obtain ⟨u, v, t, rfl, g1, g2, g3⟩ := args3 h1 h2
 rw [argI g2, argI g3]
 exact hasPort_any _ N x i w (argN g1)
theorem dfxDoe : type_of% (And.intro tab27 (And.intro tab35 (And.intro tab3 (And.intro @rowi (And.intro tab24 (And.intro tab82 (And.intro @if_pos.{1} (And.intro @getDe (And.intro @getDp @trivial))))))))) := And.intro tab27 (And.intro tab35 (And.intro tab3 (And.intro @rowi (And.intro tab24 (And.intro tab82 (And.intro @if_pos.{1} (And.intro @getDe (And.intro @getDp @trivial))))))))
set_option maxRecDepth 8000 in
set_option maxHeartbeats 0 in
theorem OtherEnd_d (f : NF) (N : Net) (v i : Nat) (hg : goodB N = true) (hi : N.ids.length ≤ 2097152) (hv : v < N.ends.length) (hj : i < (gl N.ends v).length) : DCalls Tryz.prog 13 [.agg (netC f N), .c (.p (.int .i64 v)), .c (.p (.int .i64 i))] (fun r => r = [.own true [.p (.int .i64 (gp (gl N.ends v) i).1), .p (.int .i64 (gp (gl N.ends v) i).2)], .c (.p (.bool true))]) := by -- params impl.Network, int, int
 have hp : portB N v i = true := by
  unfold portB
  rw [inB_iff.2 (by omega), Int.toNat_natCast, inB_iff.2 (by omega)]; rfl
 refine dcalls_of Tryz.func13 rfl (by rw [Tryz.ntmps13]; simp) fun w0 => ?_
 rw [Tryz.ntmps13]
 have dfx := dfxDoe
 simp only [initE, argsL, Arg.av, netC, endss, ints, ends]
 refine dw_seq (dwR fun K hK => ?_)
 repeat refine evF ?_
 refine aops_end (hK _ (dwK [1, 2, 3, 6] ?_))
 clear hK K
 refine dw_seq ?_
 refine dw_seq (dwR fun K hK => ?_)
 repeat refine evF ?_
 refine clF rfl ⟨rfl, _, rfl⟩ (by omega) (by first | exact may55 | exact may63) (IsNetwork_d ⟨false, f.t1, f.o2, f.t2, false, f.t3, false, f.t4⟩ N hi) ?_
 rintro _ rfl
 repeat refine evF ?_
 have dfx := And.intro dfx (@hg)
 repeat refine evF ?_
 have dfx := And.intro dfx (@hg)
 refine cgF rfl rfl ⟨rfl, _, rfl⟩ (by omega) (by first | exact may55 | exact may63) (hasPort_d ⟨false, f.t1, f.o2, f.t2, false, f.t3, false, f.t4⟩ N v i) ?_
 rintro _ rfl
 repeat refine evF ?_
 have dfx := And.intro dfx (And.intro @hg @hp)
 repeat refine evF ?_
 have dfk := And.intro @hg @hp
 refine aops_end (hK _ (dwKF [1, 2, 3, 6, 17] ?_))
 clear hK K
 refine dwI (fun hb => ?_) (fun hb => ?_)
 ·cases hb
 ·refine dw_skip ?_
  show DW _ _ _ _ _
  have dfx := And.intro dfx (@Int.toNat_natCast)
  refine dw_seq (dwR fun K hK => ?_)
  repeat refine evF ?_
  refine aops_end (hK _ (dwK [6, 7] ?_))
  clear hK K
  exact dw_ret (fin_ret Tryz.results13 (.two (.cell 6 _ _ _ _ rfl rfl tab35 rfl rfl (fun x hx => by simp at hx; rcases hx with rfl | rfl <;> exact owned_p _)) (.plain _ _ rfl)) (by decide) rfl)
end
end Go.Proofs.YtdiiggpohcjppaaGreat

/- impl.distancesFrom over data -/
import Derived.Test.YtolpiolnhgpjjaaGreatCJn21
import Derived.Test.YtolpiolnhgpjjaaGreatCRpt
import Derived.Test.YtolpiolnhgpjjaaGreatCJn8
import Derived.Test.YtolpiolnhgpjjaaGreatCDcv
import Derived.Test.YtolpiolnhgpjjaaGreatCDt
set_option linter.unusedSimpArgs false
set_option linter.unusedVariables false
namespace Go.Proofs.YtolpiolnhgpjjaaGreat
open Go Go.RowKit
theorem bq : Int.toNat 0 = 0 := rfl
theorem bt : Int.toNat 1 = 1 := rfl
theorem Fz (o : Bool) (t : TypeId) (x : Int) (n : Nat) (hn : n ≤ 2097152) : DCalls Tryz.prog 132 [.c (.sl o t 1 [iC x]), .c (.p (.int .i64 n))] (fun r => r = [.own false [.sl true 3 1 ((List.replicate n x).map iC)]]) := yt fun w vs h1 h2 => by
 obtain ⟨u, v, rfl, g1, g2⟩ := P4 h1 h2;obtain rfl := Hv g2;obtain ⟨A, cap, rfl, -, -, h4⟩ := RO.shape (show RO w _ _ _ from g1);obtain ⟨b, off, rfl, -, -, -, h5⟩ := h4 (by simp);obtain ⟨u, h6, h7⟩ := h5 0 0 (.p (.int .i64 x)) rfl;rw [eu h7] at h6;exact H0 x b off cap n w (by simpa using h6) hn
def zBDbf1 := PLift.up (And.intro ap (And.intro bh (And.intro ce (And.intro bl (And.intro az (And.intro @if_pos.{1} (And.intro @b7 (And.intro be (And.intro @dm (And.intro @dl (And.intro @bq (And.intro @bt @trivial))))))))))))
theorem U3 : type_of% zBDbf1.down := zBDbf1.down
set_option maxRecDepth 8000 in
set_option maxHeartbeats 0 in
theorem rl (f : NF) (N : Net) (hn : N.ends.length ≤ 1000) : DCalls Tryz.prog 179 [.agg (bw f N)] (fun r => r = [.own false [.sl true 3 1 ((List.replicate N.ends.length (-1)).map iC)]]) := by
 refine ao Tryz.func179 rfl (by rw [Tryz.ntmps179]; simp) fun w0 => ?_;rw [Tryz.ntmps179];have dX := U3;simp only [b4, bc, Arg.av, bw, b8, ints, ends];refine ab (dR fun K hK => ?_);(repeat refine eV ?_);refine aa (hK _ (wK [1] ?_));clear hK K;refine ab (dR fun K hK => ?_)
 repeat (apply dr; (focus exact rfl); (focus (simp (disch := first | omega | (intros; contradiction)) only [ac, bj, pZ, simprocAttr, ap, bh, ce, bl, az, if_pos, b7, be, dm, dl, bq, bt , ee]; exact rfl)))
 refine gn rfl ⟨rfl, _, rfl⟩ (by omega) (by first | exact ee) (by simp (disch := first | omega | (intros; contradiction)) only [ac, bj, pZ, simprocAttr, ap, bh, ce, bl, az, if_pos, b7, be, dm, dl, bq, bt , ee] <;> exact rfl) (Fz true 3 (-1) N.ends.length (by omega)) ?_;rintro _ rfl
 repeat (apply dr; (focus exact rfl); (focus (simp (disch := first | omega | (intros; contradiction)) only [ac, bj, pZ, simprocAttr, ap, bh, ce, bl, az, if_pos, b7, be, dm, dl, bq, bt , ee]; exact rfl)))
 refine aa (hK _ (wK [2] ?_));clear hK K;exact ak (aq Tryz.results179 (.one (.own _ _ _ _ rfl rfl (own1 (bn _ _)))) (by decide) rfl)
end Go.Proofs.YtolpiolnhgpjjaaGreat

/- The leader and electable networks: refusals, draws, both programs at any drawn network. Over data -/
import Derived.Test.YtfknckinfcicbaaGreatCJn44
import Derived.Test.YtfknckinfcicbaaGreatCJn41
import Derived.Test.YtfknckinfcicbaaGreatCJn26
import Derived.Test.YtfknckinfcicbaaGreatCJn28
import Derived.Test.YtfknckinfcicbaaGreatCDt
import Derived.Test.YtfknckinfcicbaaGreatCJn9
import Derived.Test.YtfknckinfcicbaaGreatCJn23
import Derived.Test.YtfknckinfcicbaaGreatCDcu
import Derived.Test.YtfknckinfcicbaaGreatCJn17
import Derived.Test.YtfknckinfcicbaaGreatCJn7
import Derived.Test.YtfknckinfcicbaaGreatCNw1
import Derived.Test.YtfknckinfcicbaaGreatCJn13
import Derived.Test.YtfknckinfcicbaaGreatCDix
import Derived.Test.YtfknckinfcicbaaGreatCJn31
import Derived.Test.YtfknckinfcicbaaGreatCJn19
import Derived.Test.YtfknckinfcicbaaGreatCJn39
import Derived.Test.YtfknckinfcicbaaGreatCJn32
import Derived.Test.YtfknckinfcicbaaGreatCJn35
import Derived.Test.YtfknckinfcicbaaGreatCJn21
import Derived.Test.YtfknckinfcicbaaGreatCJn33
import Derived.Laws.IdiomCopy
import Derived.Laws.Slices
import Derived.StillTailTactics
set_option linter.unusedSimpArgs false
set_option linter.unusedVariables false
namespace Go.Proofs.YtfknckinfcicbaaGreat
open Go Go.RowKit
theorem Drawn.rng {m d:Nat} {N:Net} (h:Drawn m d N) (hm:m ≤ 1000):∀ v i,v < N.ends.length → i < (gl N.ends v).length → -1000 ≤ (gp (gl N.ends v) i).1 ∧ (gp (gl N.ends v) i).1 ≤ 1000:=fun v i hv hi=>by
 obtain ⟨b,j,e,hb,-,-⟩:=h.sym v i hv hi;have e':gp (gl N.ends v) i = ((b:Int),(j:Int)):=e;have:=h.len;rw [e'];exact ⟨by show (-1000:Int) ≤ (b:Int); omega,by show (b:Int) ≤ 1000; omega⟩
def zBLd61:=PLift.up (And.intro aq (And.intro M7 (And.intro qt (And.intro ch (And.intro M8 (And.intro @cf (And.intro bn (And.intro b7 (And.intro bb (And.intro @netO.eq_1 (And.intro @netZ.eq_1 (And.intro @if_pos.{1} (And.intro @bo @trivial)))))))))))))
theorem jaj:type_of% zBLd61.down:=zBLd61.down
set_option maxRecDepth 8000 in
set_option maxHeartbeats 0 in
theorem xo (bs:List Int) (hby:dp bs):dr Tryz.prog 71 [.c (codeC bs)] jc8:=by
 refine tb (by simp [Arg.isIo]) Tryz.func71 rfl (by rw [Tryz.ntmps71]; simp) fun w0=>?_;rw [Tryz.ntmps71];have dX:=jaj;simp only [bw,bf,Arg.av,codeC];refine ab (dR fun K hK=>?_);(repeat refine eV ?_);refine aa (hK _ (wK [0,2] ?_));clear hK K;refine ab (dR fun K hK=>?_);(repeat refine eV ?_);refine aa (hK _ (wK [2,3,6] ?_));clear hK K;refine ab ?_;refine ab (dR fun K hK=>?_);(repeat refine eV ?_);refine kg rfl ⟨rfl,_,rfl⟩ (by omega) (by first | exact fg) (ew bs 0 0 4 _ hby (Nat.zero_le 0) (by omega)) ?_;rintro _ ⟨p1,s1,_,rfl,hp1,x1,rfl,hx1⟩;refine ioF ?_;(repeat refine eV ?_);refine aa (hK _ (wK [2,3,6,8] ?_));clear hK K;refine ac ?_;refine ab (dR fun K hK=>?_);(repeat refine eV ?_);refine aa (hK _ (wK [2,3,6,8,9] ?_));clear hK K;refine dI ?_ ?_<;>intro hb
 ·refine ab (dR fun K hK=>?_);(repeat refine eV ?_);refine qn rfl ⟨rfl,_,rfl⟩ (by omega) (by first | exact Cj | exact Ty) (Nx bs p1 s1 7 _ _ rfl hby hp1 (by omega) (by omega) (by omega)) ?_;rintro _ ⟨p2,s2,_,rfl,hp2,N2,rfl,ht2⟩;refine ioF ?_;(repeat refine eV ?_);refine Vm 12 (by simp only [ae,pZ,simprocAttr]; exact rfl) ?_;refine cL rfl ⟨rfl,_,rfl⟩ (by omega) (by first | exact Cj | exact Ty) (Mj NFz N2 (by have:=ht2.len; omega) ht2.ins (fun v _=>by have:=ht2.deg v; unfold dg at this; omega) (ht2.rng (by omega))) ?_;rintro _ rfl;(repeat refine eV ?_);have dK:=@netO.eq_1;refine aa (hK _ (au [2,6] ?_));clear hK K;refine vj 2 [2,6] (by simp only [ae,pZ,simprocAttr]; exact rfl) ?_;exact ai (f6 Tryz.results71 (.one (.cell 2 _ _ _ _ rfl rfl aq rfl rfl rfl)) (by decide) ⟨pq N2 N2.ends.length,rfl,Se (ht2.tame (by omega) (by omega)) (by have:=ht2.len; omega)⟩)
 ·refine ab (dR fun K hK=>?_);(repeat refine eV ?_);refine aa (hK _ (wK [2,3,6,14] ?_));clear hK K;refine dI ?_ ?_<;>intro hb
  ·refine ab (dR fun K hK=>?_);(repeat refine eV ?_);refine qn rfl ⟨rfl,_,rfl⟩ (by omega) (by first | exact yo | exact ut) (F6 bs p1 s1 5 _ _ rfl hby hp1 (by omega) (by omega) (by omega)) ?_;rintro _ ⟨p3,s3,_,rfl,hp3,N3,rfl,ht3⟩;refine ioF ?_;(repeat refine eV ?_);refine qn rfl ⟨rfl,_,rfl⟩ (by omega) (by first | exact yo | exact ut) (F6 bs p3 s3 6 _ _ rfl hby hp3 (by omega) (by omega) (by omega)) ?_;rintro _ ⟨p4,s4,_,rfl,hp4,N4,rfl,ht4⟩;refine ioF ?_;(repeat refine eV ?_);refine cL rfl ⟨rfl,_,rfl⟩ (by omega) (by first | exact yo | exact ut) (Ev N3 N4 (ht3.small (by omega) (by omega)) (ht4.small (by omega) (by omega)) ht4.sym) ?_;rintro _ rfl;(repeat refine eV ?_);have dK:=@netO.eq_1;refine aa (hK _ (au [2,6] ?_));clear hK K;refine vj 2 [2,6] (by simp only [ae,pZ,simprocAttr]; exact rfl) ?_;exact ai (f6 Tryz.results71 (.one (.cell 2 _ _ _ _ rfl rfl aq rfl rfl rfl)) (by decide) ⟨jp N3 N4,rfl,(ht3.union ht4).tame (by omega) (by omega)⟩)
  ·refine af ?_;show DW _ _ _ _ _;refine ab (dR fun K hK=>?_);(repeat refine eV ?_);refine qn rfl ⟨rfl,_,rfl⟩ (by omega) (by first | exact jcg) (Vo bs p1 s1 9 _ _ rfl hby hp1 (by omega) (by omega) (by omega)) ?_;rintro _ ⟨p5,s5,_,rfl,hp5,N5,rfl,ht5⟩;refine ioF ?_;(repeat refine eV ?_);have dK:=@netO.eq_1;refine aa (hK _ (au [2,6] ?_));clear hK K;refine vj 2 [2,6] (by simp only [ae,pZ,simprocAttr]; exact rfl) ?_;exact ai (f6 Tryz.results71 (.one (.cell 2 _ _ _ _ rfl rfl aq rfl rfl rfl)) (by decide) ⟨N5,rfl,ht5⟩)
end Go.Proofs.YtfknckinfcicbaaGreat

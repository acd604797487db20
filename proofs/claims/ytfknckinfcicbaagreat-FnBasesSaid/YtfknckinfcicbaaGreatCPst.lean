/- Equal networks: laws.pSameNet over data -/
import Derived.Test.YtfknckinfcicbaaGreatCJn23
import Derived.Test.YtfknckinfcicbaaGreatCJn21
import Derived.Test.YtfknckinfcicbaaGreatCJn33
import Derived.Test.YtfknckinfcicbaaGreatCJn26
import Derived.Test.YtfknckinfcicbaaGreatCDbf
set_option linter.unusedSimpArgs false
set_option linter.unusedVariables false
namespace Go.Proofs.YtfknckinfcicbaaGreat
open Go Go.RowKit
def pSameNetSt6:Nat → Stat
 | 0=>⟨[2],[(2,1)],[],[36],[],[]⟩
 | 1=>⟨[36],[(2,1)],[],[37],[],[]⟩
 | 2=>⟨[5],[],[],[38],[],[]⟩
 | 3=>⟨[37,38],[],[],[39],[],[]⟩
 | 4=>⟨[39],[],[],[40],[],[]⟩
 | 5=>⟨[40],[],[],[41],[],[]⟩
 | 6=>⟨[3],[(3,1)],[],[42],[],[]⟩
 | 7=>⟨[42],[(3,1)],[],[43],[],[]⟩
 | 8=>⟨[5],[],[],[44],[],[]⟩
 | 9=>⟨[43,44],[],[],[45],[],[]⟩
 | 10=>⟨[45],[],[],[46],[],[]⟩
 | 11=>⟨[46],[],[],[47],[],[]⟩
 | 12=>⟨[41,47],[],[],[48],[],[]⟩
 | _=>⟨[],[],[],[],[],[]⟩
def pSameNetSt11:Nat → Stat
 | 0=>⟨[2],[(2,1)],[],[58],[],[]⟩
 | 1=>⟨[58],[(2,1)],[],[59],[],[]⟩
 | 2=>⟨[5],[],[],[60],[],[]⟩
 | 3=>⟨[59,60],[],[],[61],[],[]⟩
 | 4=>⟨[61],[],[],[62],[],[]⟩
 | 5=>⟨[6],[],[],[63],[],[]⟩
 | 6=>⟨[62,63],[],[],[64],[],[]⟩
 | 7=>⟨[64],[],[],[65],[],[]⟩
 | 8=>⟨[3],[(3,1)],[],[66],[],[]⟩
 | 9=>⟨[66],[(3,1)],[],[67],[],[]⟩
 | 10=>⟨[5],[],[],[68],[],[]⟩
 | 11=>⟨[67,68],[],[],[69],[],[]⟩
 | 12=>⟨[69],[],[],[70],[],[]⟩
 | 13=>⟨[6],[],[],[71],[],[]⟩
 | 14=>⟨[70,71],[],[],[72],[],[]⟩
 | 15=>⟨[72],[],[],[73],[],[]⟩
 | 16=>⟨[65,73],[],[],[74],[],[]⟩
 | _=>⟨[],[],[],[],[],[]⟩
def zBPst1:=PLift.up (And.intro aq (And.intro @netO.eq_1 (And.intro @cf (And.intro bn (And.intro b7 (And.intro cd (And.intro ch (And.intro bb (And.intro ee (And.intro @if_pos.{1} (And.intro @cx (And.intro @cw (And.intro @bo (And.intro @a7 (And.intro @ba (And.intro @df (And.intro @ek (And.intro @netZ.eq_1 (And.intro C0 @trivial)))))))))))))))))))
theorem jag:type_of% zBPst1.down:=zBPst1.down
set_option maxRecDepth 8000 in
set_option maxHeartbeats 0 in
theorem lz (f g:NF) (N:Net) (hs:er N):DCalls Tryz.prog 31 [.agg (be f N),.agg (be g N)] (fun r=>r = [.c (.p (.bool true))]):=by
 obtain ⟨s1,s2,s3,s4⟩:=id hs;have k1:=ud N.ids;have k2:=ud N.inputs;refine aw Tryz.func31 rfl (by rw [Tryz.ntmps31]; simp) fun w0=>?_;rw [Tryz.ntmps31];have dX:=jag;simp only [bw,bf,Arg.av,be,b9,ints,ends];refine ab (dR fun K hK=>?_);(repeat refine eV ?_);refine aa (hK _ (wK [2,3] ?_));clear hK K;refine ab ?_;have dX:=And.intro dX (@bne_self_eq_false.{0});refine ab (dR fun K hK=>?_);(repeat refine eV ?_);have dX:=And.intro dX (@bne_self_eq_false.{0});refine cgF rfl rfl ⟨rfl,_,rfl⟩ (by omega) (by first | exact Tz) (ue false f.t3 N.ids false g.t3 N.ids (by omega) (by omega)) ?_;rintro _ rfl;(repeat refine eV ?_);have dX:=And.intro dX (And.intro @bne_self_eq_false.{0} @k1);(repeat refine eV ?_);have dX:=And.intro dX (And.intro @bne_self_eq_false.{0} @k1);refine cgF rfl rfl ⟨rfl,_,rfl⟩ (by omega) (by first | exact Tz) (ue false f.t4 N.inputs false g.t4 N.inputs (by omega) (by omega)) ?_;rintro _ rfl;(repeat refine eV ?_);have dX:=And.intro dX (And.intro @bne_self_eq_false.{0} (And.intro @k1 @k2));(repeat refine eV ?_);have dK:=And.intro @bne_self_eq_false.{0} (And.intro @k1 @k2);refine aa (hK _ (au [2,3,29] ?_));clear hK K;refine dI ?_ ?_<;>intro hb
 ·cases hb
 ·refine af ?_;show DW _ _ _ _ _;refine ab ?_;refine ab (dR fun K hK=>?_);(repeat refine eV ?_);refine aa (hK _ (wK [2,3,32,33] ?_));clear hK K;refine ac ?_;refine ax (X:=Nat) (fun v=>v ≤ N.ends.length) (fun v=>[(33,.c (.p (.int .i64 v)))]) (fun v=>[]) (fun v=>N.ends.length - v) 0 (Nat.zero_le _) (by first | rfl | (simp only [ae,pZ,simprocAttr,Int.natCast_zero] <;> rfl)) ?_;rintro v hv;intro E hE;simp only [ae,pZ,simprocAttr] at hE;subst hE;refine ab (dR fun K hK=>?_);(repeat refine eV ?_);refine aa (hK _ (wK [2,3,32,33,34] ?_));clear hK K;refine ab (dI (fun hb=>?_) (fun hb=>?_))
  ·have hv1:v < N.ends.length:=by simpa using hb
   have hdv:=s2 v hv1;refine af ?_;show DW _ _ _ _ _;refine ab (ac ?_);refine ab (dR fun K hK=>?_);(repeat refine eV ?_);refine aa (hK _ (wK [2,3,5,32,33] ?_));clear hK K;refine ab ?_;have dX:=And.intro dX (And.intro @pSameNetSt6.eq_def (And.intro @bne_self_eq_false.{0} @Int.toNat_natCast));refine ab (cm pSameNetSt6 (fun j r=>match j with | _=>True) fun K hK=>?_);(repeat refine dV ?_);have dK:=@bne_self_eq_false.{0};refine ak (hK _ (au [2,3,5,32,33,48] ?_));clear hK K;refine dI ?_ ?_<;>intro hb
   ·cases hb
   ·refine af ?_;show DW _ _ _ _ _;have dX:=And.intro dX (@Int.toNat_natCast);refine ab (dR fun K hK=>?_);(repeat refine eV ?_);refine aa (hK _ (wK [2,3,5,32,33,54,55] ?_));clear hK K;refine ac ?_;refine ax (X:=Nat) (fun i=>i ≤ (gl N.ends v).length) (fun i=>[(55,.c (.p (.int .i64 i)))]) (fun i=>[]) (fun i=>(gl N.ends v).length - i) 0 (Nat.zero_le _) (by first | rfl | (simp only [ae,pZ,simprocAttr,Int.natCast_zero] <;> rfl)) ?_;rintro i hi;intro E hE;simp only [ae,pZ,simprocAttr] at hE;subst hE;refine ab (dR fun K hK=>?_);(repeat refine eV ?_);refine aa (hK _ (wK [2,3,5,32,33,54,55,56] ?_));clear hK K;refine ab (dI (fun hb=>?_) (fun hb=>?_))
    ·have hi1:i < (gl N.ends v).length:=by simpa using hb
     have e1:((gp (gl N.ends v) i).1 == (gp (gl N.ends v) i).1) = true:=beq_self_eq_true _;have e2:((gp (gl N.ends v) i).2 == (gp (gl N.ends v) i).2) = true:=beq_self_eq_true _;refine af ?_;show DW _ _ _ _ _;refine ab (ac ?_);refine ab (dR fun K hK=>?_);(repeat refine eV ?_);refine aa (hK _ (wK [2,3,5,6,32,33,54,55] ?_));clear hK K;have dX:=And.intro dX (And.intro @pSameNetSt11.eq_def (And.intro @e1 (And.intro @e2 (And.intro @Bool.and_true (And.intro @Bool.not_true @Int.toNat_natCast)))));refine ab (cm pSameNetSt11 (fun j r=>match j with | _=>True) fun K hK=>?_);(repeat refine dV ?_);have dK:=And.intro @e1 @e2;refine ak (hK _ (au [2,3,5,32,33,54,55,74] ?_));clear hK K;refine dI ?_ ?_<;>intro hb
     ·cases hb
     ·refine af ?_;show DW _ _ _ _ _;refine dR fun K hK=>?_;(repeat refine eV ?_);have dK:=@bj;refine aa (hK _ ?_);clear hK K;show ∃ x,_ ∧ _ ∧ Weak _ _;refine ⟨i + 1,?_,?_,ay [2,3,5,32,33,54,55]⟩
      ·omega
      ·omega
    ·refine an ?_;refine wK [2,3,32,33] ?_;refine dR fun K hK=>?_;(repeat refine eV ?_);have dK:=@bj;refine aa (hK _ ?_);clear hK K;show ∃ x,_ ∧ _ ∧ Weak _ _;refine ⟨v + 1,?_,?_,ay [2,3,32,33]⟩
     ·omega
     ·omega
  ·refine an ?_;refine wK [] ?_;refine ab (dR fun K hK=>?_);(repeat refine eV ?_);refine aa (hK _ (wK [4] ?_));clear hK K;exact ai (am Tryz.results31 (.one (.plain _ _ rfl)) (by decide) rfl)
end Go.Proofs.YtfknckinfcicbaaGreat

/- Parts of the proof. -/
import Derived.Test.YtfknckinfcicbaaGreatCJn19
import Derived.Test.YtfknckinfcicbaaGreatCJn35
import Derived.Test.YtfknckinfcicbaaGreatCVca
import Derived.Test.YtfknckinfcicbaaGreatCJn17
import Derived.Test.YtfknckinfcicbaaGreatCJn9
import Derived.Test.YtfknckinfcicbaaGreatCJn7
import Derived.Test.YtfknckinfcicbaaGreatCNw1
import Derived.Test.YtfknckinfcicbaaGreatCJn13
import Derived.Test.YtfknckinfcicbaaGreatCMk
import Derived.Test.YtfknckinfcicbaaGreatCIm4
import Derived.StillTailTactics
import Derived.Test.YtfknckinfcicbaaGreatCJn26
import Derived.Test.YtfknckinfcicbaaGreatCJn32
import Derived.Test.YtfknckinfcicbaaGreatCJn39
import Derived.Test.YtfknckinfcicbaaGreatCDix
import Derived.Test.YtfknckinfcicbaaGreatCIm1
import Derived.Test.YtfknckinfcicbaaGreatCJn31
import Derived.Test.YtfknckinfcicbaaGreatCJn28
import Derived.Test.YtfknckinfcicbaaGreatCDt
import Derived.Test.YtfknckinfcicbaaGreatCDcu
import Derived.Test.YtfknckinfcicbaaGreatCJn21
import Derived.Test.YtfknckinfcicbaaGreatCJn33
import Derived.Test.YtfknckinfcicbaaGreatCJn16
import Derived.Carry
import Derived.Maps.OwnOps
set_option linter.unusedSimpArgs false
set_option linter.unusedVariables false
namespace Go.Proofs.YtfknckinfcicbaaGreat
section
open Go Go.RowKit
theorem Uf (f:NF) (N:Net) (hf:Fine N) (hin:N.inputs.length = N.ends.length) (hl:N.ends.length ≤ 1000) (hp:0 < N.ends.length) :
 DCalls Tryz.prog 96 [.agg (be f N),.c (.p (.slice none 0 0))] (fun r=>r = [.own false [.sl true 3 1 ((bv N 0).map iC)]]):=C5 fun w vs h1 h2=>by
 obtain ⟨u,c,rfl,g1,g2⟩:=O4 h1 h2;obtain rfl:c = .slice none 0 0:=fp g2;exact qe (S':=fun _=>True) u _ N none w (Vk g1) hf hin hl hp rfl
theorem Xd (f:NF) (o:Bool) (tt:TypeId) (N:Net) (t:Nat) (hf:Fine N) (hin:N.inputs.length = N.ends.length) (hl:N.ends.length ≤ 1000) (hp:0 < N.ends.length) :
 DCalls Tryz.prog 96 [.agg (be f N),.c (ints o tt (bv N t))] (fun r=>r = [.own false [.sl true 3 1 ((bv N (t + 1)).map iC)]]):=C5 fun w vs h1 h2=>by
 obtain ⟨u,c,rfl,g1,g2⟩:=O4 h1 h2;refine qe u c N (some (bv N t)) w (Vk g1) hf hin hl hp ⟨qd g2,di _ _,fun x hx=>?_⟩;have:=y8 (by omega) t x hx;omega
def zBDpj1:=PLift.up (And.intro aq (And.intro bb (And.intro ch (And.intro bn (And.intro @if_pos.{1} (And.intro @netO.eq_1 (And.intro @cf (And.intro @bo @trivial))))))))
theorem jas:type_of% zBDpj1.down:=zBDpj1.down
set_option maxRecDepth 8000 in
set_option maxHeartbeats 0 in
theorem Sh (f:NF) (N:Net) (d:Nat) (hf:Fine N) (hin:N.inputs.length = N.ends.length) (hl:N.ends.length ≤ 1000) (hp:0 < N.ends.length) (hd:IsSd N d) :
 DCalls Tryz.prog 55 [.agg (be f N)] (fun r=>r = [.c (.p (.int .i64 d)),.own false [.sl true 3 1 ((bv N d).map iC)]]):=by
 have hdl:=hd.lt (hf.rng hp);refine aw Tryz.func55 rfl (by rw [Tryz.ntmps55]; simp) fun w0=>?_;rw [Tryz.ntmps55];have dX:=jas;simp only [bw,bf,Arg.av,be,b9,ints,ends];refine ab (dR fun K hK=>?_);(repeat refine eV ?_);refine aa (hK _ (wK [1] ?_));clear hK K;refine ab (dR fun K hK=>?_);(repeat refine eV ?_);refine cL rfl ⟨rfl,_,rfl⟩ (by omega) (by first | exact Yj) (Uf ⟨false,f.t1,f.o2,f.t2,false,f.t3,false,f.t4⟩ N hf hin hl hp) ?_;rintro _ rfl;(repeat refine eV ?_);refine aa (hK _ (wK [1,4] ?_));clear hK K;refine ab (dR fun K hK=>?_);(repeat refine eV ?_);refine aa (hK _ (wK [1,4,5] ?_));clear hK K;refine ac ?_;refine ax (X:=Nat) (fun t=>t ≤ d) (fun t=>[(5,.c (.p (.int .i64 t)))]) (fun t=>[((4,0),⟨none,[.sl true 3 1 ((bv N t).map iC)]⟩)]) (fun t=>d - t) 0 (Nat.zero_le _) (by first | rfl | (simp only [ae,pZ,simprocAttr,Int.natCast_zero] <;> rfl)) ?_;rintro t ht;intro E hE;simp only [ae,pZ,simprocAttr] at hE;subst hE;refine ab (ac ?_);refine ab (dR fun K hK=>?_);(repeat refine eV ?_);refine cL rfl ⟨rfl,_,rfl⟩ (by omega) (by first | exact Yj) (Xd ⟨false,f.t1,f.o2,f.t2,false,f.t3,false,f.t4⟩ true 3 N t hf hin hl hp) ?_;rintro _ rfl;(repeat refine eV ?_);refine aa (hK _ (wK [1,4,5,6] ?_));clear hK K;refine ab ?_;refine ab (dR fun K hK=>?_);(repeat refine eV ?_);refine cL rfl ⟨rfl,_,rfl⟩ (by omega) (by first | exact yp) (lc true 3 (bv N (t + 1)) (by rw [di]; omega) (y8 (by omega) _)) ?_;rintro _ rfl;(repeat refine eV ?_);refine cL rfl ⟨rfl,_,rfl⟩ (by omega) (by first | exact yp) (lc true 3 (bv N t) (by rw [di]; omega) (y8 (by omega) _)) ?_;rintro _ rfl;(repeat refine eV ?_);have dK:=@rj;refine aa (hK _ (au [1,4,5,6,18] ?_));clear hK K;refine dI ?_ ?_<;>intro hb
 ·have he:br N (t + 1) = br N t:=by simp at hb; omega
  have htd:t = d:=by
   rcases Nat.lt_or_ge t d with h | h
   ·exact absurd he (hd.2 t h)
   ·omega
  refine ab (dR fun K hK=>?_);(repeat refine eV ?_);refine aa (hK _ (wK [2,3] ?_));clear hK K;exact ai (am Tryz.results55 (.two (.plain _ _ rfl) (.own _ _ _ _ rfl rfl (own1 (cq _ _)))) (by decide) (by rw [htd]))
 ·have htd:t < d:=by
   rcases Nat.lt_or_ge t d with h | h
   ·exact h
   ·have:t = d:=by omega
    subst this;have:=hd.1;simp [this] at hb
  refine af ?_;show DW _ _ _ _ _;refine dR fun K hK=>?_;(repeat refine eV ?_);refine aa (hK _ (wK [1,4,5] ?_));clear hK K;refine dR fun K hK=>?_;(repeat refine eV ?_);have dK:=@bj;refine aa (hK _ ?_);clear hK K;show ∃ x,_ ∧ _ ∧ Weak _ _;refine ⟨t + 1,?_,?_,ay [1,4,5]⟩
  ·omega
  ·omega
end
section
open Go Go.RowKit
theorem gd {N:Net} (hg:bg N = true):N.inputs.length = N.ends.length:=(fm.1 hg).2.2.1
end
section
open Go Go.RowKit
section
variable {N P:Net} {m:Nat} {ord:List Int}
theorem r7 {n:Nat} {b:Nat → Bool}:qp n b = true ↔ ∃ j,j < n ∧ b j = true:=by
 unfold qp;rw [List.any_eq_true];exact ⟨fun ⟨j,h1,h2⟩=>⟨j,List.mem_range.1 h1,h2⟩,fun ⟨j,h1,h2⟩=>⟨j,List.mem_range.2 h1,h2⟩⟩
theorem pz {n:Nat} {b:Nat → Bool} (h:∀ j,j < n → b j = false):qp n b = false:=by
 rw [← Bool.not_eq_true];intro h2;obtain ⟨j,h3,h4⟩:=r7.1 h2;rw [h j h3] at h4; cases h4
end
end
end Go.Proofs.YtfknckinfcicbaaGreat

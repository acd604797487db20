/- impl.distancesFrom over data -/
import Derived.Test.YtfknckinfcicbaaGreatCJn19
import Derived.Test.YtfknckinfcicbaaGreatCRpt
import Derived.Test.YtfknckinfcicbaaGreatCJn9
import Derived.Test.YtfknckinfcicbaaGreatCDcv
import Derived.Test.YtfknckinfcicbaaGreatCDt
set_option linter.unusedSimpArgs false
set_option linter.unusedVariables false
namespace Go.Proofs.YtfknckinfcicbaaGreat
open Go Go.RowKit
theorem a7:Int.toNat 0 = 0:=rfl
theorem ba:Int.toNat 1 = 1:=rfl
def zI (q:List Nat):List Int:=q.map fun (x:Nat)=>(x:Int)
theorem Yy (q:List Nat):(zI q).length = q.length:=by simp [zI]
theorem Y0 (q:List Nat) (x:Nat):zI q ++ [(x:Int)] = zI (q ++ [x]):=by simp [zI]
theorem Yz (w:Nat) (q:List Nat):jo ((zI (w :: q)).map iC) 1 (q.length + 1) = (zI q).map iC:=by
 unfold jo zI;simp [List.take_of_length_le]
theorem Dm (o:Bool) (t:TypeId) (x:Int) (n:Nat) (hn:n ≤ 2097152):DCalls Tryz.prog 125 [.c (.sl o t 1 [iC x]),.c (.p (.int .i64 n))] (fun r=>r = [.own false [.sl true 3 1 ((List.replicate n x).map iC)]]):=C5 fun w vs h1 h2=>by
 obtain ⟨u,v,rfl,g1,g2⟩:=O4 h1 h2;obtain rfl:=J9 g2;obtain ⟨A,cap,rfl,-,-,h4⟩:=RO.shape (show RO w _ _ _ from g1);obtain ⟨b,off,rfl,-,-,-,h5⟩:=h4 (by simp);obtain ⟨u,h6,h7⟩:=h5 0 0 (.p (.int .i64 x)) rfl;rw [fp h7] at h6;exact Mr x b off cap n w (by simpa using h6) hn
def distancesFromSt11:Nat → Stat
 | 0=>⟨[5],[],[],[44],[],[]⟩
 | 1=>⟨[9],[(9,1)],[],[45],[],[]⟩
 | 2=>⟨[45],[(9,1)],[],[46],[],[]⟩
 | 3=>⟨[5],[],[],[47],[],[]⟩
 | 4=>⟨[7],[],[],[48],[],[]⟩
 | 5=>⟨[47,48],[(5,1)],[],[49],[],[]⟩
 | 6=>⟨[49],[(5,2)],[],[50],[],[]⟩
 | 7=>⟨[50],[],[],[51],[],[]⟩
 | 8=>⟨[44,46],[(5,1)],[],[52],[],[]⟩
 | 9=>⟨[52,51],[(5,2)],[],[],[(5,2)],[]⟩
 | _=>⟨[],[],[],[],[],[]⟩
def zBDbf1:=PLift.up (And.intro aq (And.intro bb (And.intro ch (And.intro bn (And.intro b7 (And.intro @if_pos.{1} (And.intro @cf (And.intro cd (And.intro @cx (And.intro @cw (And.intro @a7 (And.intro @ba @trivial))))))))))))
theorem jay:type_of% zBDbf1.down:=zBDbf1.down
set_option maxRecDepth 8000 in
set_option maxHeartbeats 0 in
theorem Ai (f:NF) (N:Net) (v:Nat) (hs:Sym N.ends) (hv:v < N.ends.length) (hn:N.ends.length ≤ 1000) (hdg:∀ a,(gl N.ends a).length ≤ 1000):DCalls Tryz.prog 124 [.agg (be f N),.c (.p (.int .i64 v))] (fun r=>r = [.own false [.sl true 3 1 ((fo N v).map iC)]]):=by
 refine aw Tryz.func124 rfl (by rw [Tryz.ntmps124]; simp) fun w0=>?_;rw [Tryz.ntmps124];have dX:=jay;simp only [bw,bf,Arg.av,be,b9,ints,ends];refine ab (dR fun K hK=>?_);(repeat refine eV ?_);refine aa (hK _ (wK [1,2] ?_));clear hK K;refine ab (dR fun K hK=>?_)
 repeat (apply cr; (focus exact rfl); (focus (simp (disch:=first | omega | (intros; contradiction)) only [ae,bu,pZ,simprocAttr,aq,bb,ch,bn,b7,if_pos,cf,cd,cx,cw,a7,ba ,kv]; exact rfl)))
 refine fb rfl ⟨rfl,_,rfl⟩ (by omega) (by first | exact kv) (by simp (disch:=first | omega | (intros; contradiction)) only [ae,bu,pZ,simprocAttr,aq,bb,ch,bn,b7,if_pos,cf,cd,cx,cw,a7,ba ,kv] <;> exact rfl) (Dm true 3 (-1) N.ends.length (by omega)) ?_;rintro _ rfl
 repeat (apply cr; (focus exact rfl); (focus (simp (disch:=first | omega | (intros; contradiction)) only [ae,bu,pZ,simprocAttr,aq,bb,ch,bn,b7,if_pos,cf,cd,cx,cw,a7,ba ,kv]; exact rfl)))
 refine aa (hK _ (wK [1,2,5] ?_));clear hK K;have hrl:(List.replicate N.ends.length (-1:Int)).length = N.ends.length:=List.length_replicate;have dX:=And.intro dX (@hrl);refine ab (dR fun K hK=>?_);(repeat refine eV ?_);have dK:=@lv;refine aa (hK _ (au [1,2,5] ?_));clear hK K;refine ab (dR fun K hK=>?_);(repeat refine eV ?_);refine aa (hK _ (wK [2,5,6] ?_));clear hK K;refine ab (ac ?_);refine ax (X:=List Int × List Nat × List Nat) (fun x=>BfsI N v x.1 x.2.1 x.2.2) (fun x=>[]) (fun x=>[((5,0),⟨none,[.sl true 3 1 (x.1.map iC)]⟩),((6,0),⟨none,[.sl true 3 1 ((zI x.2.2).map iC)]⟩)]) (fun x=>N.ends.length - x.2.1.length) ((List.replicate N.ends.length (-1)).set v 0,[],[v]) (BfsI.start hv) (by first | rfl | (simp only [ae,pZ,simprocAttr,Int.natCast_zero] <;> rfl)) ?_;rintro ⟨out,done,q⟩ hI;intro E hE;simp only [ae,pZ,simprocAttr] at hE;subst hE;dsimp only at hI ⊢;refine ab ?_;refine ab (dR fun K hK=>?_);(repeat refine eV ?_);refine aa (hK _ (wK [2,5,6,22] ?_));clear hK K;refine dI ?_ ?_<;>intro hb
 ·refine af ?_;show DW _ _ _ _ _
  obtain ⟨w,q,rfl⟩:∃ w q',q = w :: q':=by
   cases q with
   | nil=>simp [zI] at hb
   | cons w q=>exact ⟨w,q,rfl⟩
  have hzl:(zI (w :: q)).length = q.length + 1:=by simp [zI]
  have hz0:gi (zI (w :: q)) 0 = (w:Int):=rfl;obtain ⟨hw,hw0⟩:=hI.at0;refine ac ?_;have dX:=And.intro dX (And.intro @hzl @hz0);refine ab (dR fun K hK=>?_);(repeat refine eV ?_);refine aa (hK _ (wK [2,5,6,7] ?_));clear hK K;have dX:=And.intro dX (@hzl);refine ab (dR fun K hK=>?_);(repeat refine eV ?_);have dK:=And.intro @ba @Yz;refine aa (hK _ (au [2,5,6,7] ?_));clear hK K;refine ab (dR fun K hK=>?_);(repeat refine eV ?_);refine aa (hK _ (wK [2,5,6,7,32,33,34] ?_));clear hK K;refine ac ?_;refine ax (X:=List Int × List Nat × Nat) (fun x=>BfsJ N v x.1 done w x.2.1 x.2.2 ∧ x.2.2 ≤ (gl N.ends w).length) (fun x=>[(34,.c (.p (.int .i64 x.2.2)))]) (fun x=>[((5,0),⟨none,[.sl true 3 1 (x.1.map iC)]⟩),((6,0),⟨none,[.sl true 3 1 ((zI x.2.1).map iC)]⟩)]) (fun x=>(gl N.ends w).length - x.2.2) (out,q,0) ⟨hI.pop,Nat.zero_le _⟩ (by first | rfl | (simp only [ae,pZ,simprocAttr,Int.natCast_zero] <;> rfl)) ?_;rintro ⟨o2,q2,i⟩ ⟨hJ,hi⟩;intro E hE;simp only [ae,pZ,simprocAttr] at hE;subst hE;dsimp only at hJ hi ⊢;refine ab (dR fun K hK=>?_);(repeat refine eV ?_);refine aa (hK _ (wK [2,5,6,7,32,33,34,35] ?_));clear hK K;refine ab (dI (fun hb=>?_) (fun hb=>?_))
  ·have hil:i < (gl N.ends w).length:=by simpa using hb
   obtain ⟨hx,-,-,-,hgp⟩:=d9 hs hw hil;have hg1:(gp (gl N.ends w) i).1 = ((nd N w i:Nat):Int):=by rw [hgp]
   have hol:=hJ.base.len;have hxo:nd N w i < o2.length:=by rw [hol]; exact hx
   have hwo:w < o2.length:=by rw [hol]; exact hw
   have hb1:=hJ.base.bnd w hw;have hb2:=hJ.base.low w hw;have hb3:=hJ.base.len_le;rw [List.length_cons] at hb3;have hzq:(zI q2).length = q2.length:=Yy q2;have hdw:=hdg w;refine af ?_;show DW _ _ _ _ _;refine ab (ac ?_);refine ab (dR fun K hK=>?_);(repeat refine eV ?_);refine aa (hK _ (wK [2,5,6,7,9,32,33,34] ?_));clear hK K;have dX:=And.intro dX (@hg1);refine ab (dR fun K hK=>?_);(repeat refine eV ?_);refine aa (hK _ (wK [2,5,6,7,9,32,33,34,43] ?_));clear hK K;refine dI ?_ ?_<;>intro hb
   ·have h0:gi o2 (nd N w i) < 0:=by simpa using hb
    have dX:=And.intro dX (And.intro @distancesFromSt11.eq_def @hg1);refine ab (cm distancesFromSt11 (fun j r=>True) fun K hK=>?_);(repeat refine dV ?_);have dK:=@lv;refine ak (hK _ (au [2,5,6,7,9,32,33,34] ?_));clear hK K;have dX:=And.intro dX (@hg1);refine dR fun K hK=>?_;(repeat refine eV ?_);have dK:=And.intro @il @Y0;refine aa (hK _ (au [2,5,6,7,32,33,34] ?_));clear hK K;refine dR fun K hK=>?_;(repeat refine eV ?_);have dK:=@bj;refine aa (hK _ ?_);clear hK K;show ∃ x,_ ∧ _ ∧ Weak _ _;refine ⟨(o2.set (nd N w i) (gi o2 w + 1),q2 ++ [nd N w i],i + 1),?_,?_,ay [2,5,6,7,32,33,34]⟩
    ·exact ⟨hJ.push hs hil h0,hil⟩
    ·dsimp only; omega
   ·have h0:0 ≤ gi o2 (nd N w i):=by simpa using hb
    refine af ?_;show DW _ _ _ _ _;refine dR fun K hK=>?_;(repeat refine eV ?_);have dK:=@bj;refine aa (hK _ ?_);clear hK K;show ∃ x,_ ∧ _ ∧ Weak _ _;refine ⟨(o2,q2,i + 1),?_,?_,ay [2,5,6,7,32,33,34]⟩
    ·exact ⟨hJ.skip hs hil h0,hil⟩
    ·dsimp only; omega
  ·have hil:i = (gl N.ends w).length:=by
    have:¬ (i:Int) < ((gl N.ends w).length:Int):=by simpa using hb
    omega
   subst hil;have hD:=hJ.done;refine an ?_;show ∃ x,_ ∧ _ ∧ Weak _ _;refine ⟨(o2,done ++ [w],q2),hD,?_,R5 [2,5,6]⟩;have:=hD.len_le;dsimp only;rw [List.length_append,List.length_singleton] at *;omega
 ·have hq:q = []:=by
   cases q with
   | nil=>rfl
   | cons w q=>simp [zI] at hb
  subst hq;refine an ?_;refine wK [5] ?_;refine ab (dR fun K hK=>?_);(repeat refine eV ?_);refine aa (hK _ (wK [4] ?_));clear hK K;exact ai (am Tryz.results124 (.one (.own _ _ _ _ rfl rfl (own1 (cq _ _)))) (by decide) (by rw [hI.dist.eq hs]))
end Go.Proofs.YtfknckinfcicbaaGreat

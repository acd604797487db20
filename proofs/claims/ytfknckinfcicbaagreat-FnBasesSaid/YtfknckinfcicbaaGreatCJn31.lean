/- Parts of the proof. -/
import Derived.Test.YtfknckinfcicbaaGreatCJn19
import Derived.Test.YtfknckinfcicbaaGreatCJn26
import Derived.Test.YtfknckinfcicbaaGreatCNw1
import Derived.Test.YtfknckinfcicbaaGreatCJn7
set_option linter.unusedSimpArgs false
set_option linter.unusedVariables false
namespace Go.Proofs.YtfknckinfcicbaaGreat
section
set_option maxHeartbeats 0
set_option maxRecDepth 8000
open Go Go.RowKit
theorem pf (f:NF) (N:Net) (hs:er N):DCalls Tryz.prog 132 [.agg (be f N)] (fun r=>r = [.own true (netO N)]):=Fm fun w vs h1 h2=>by
 obtain ⟨u,rfl,g1⟩:=J6 h1 h2;exact Qd u N w (Vk g1) hs
def i5 (N:Net) (v m:Nat):List Int:=((gl N.ends v).take m).map Prod.fst
theorem Qa {N:Net} {v m:Nat} (h:m < (gl N.ends v).length):i5 N v (m + 1) = i5 N v m ++ [(gp (gl N.ends v) m).1]:=by
 unfold i5;rw [List.take_add_one,List.getElem?_eq_getElem h,gb h,List.map_append];rfl
theorem Tb {N:Net} {v m:Nat} (h:m ≤ (gl N.ends v).length):(i5 N v m).length = m:=by simp [i5]; omega
def zBDen1:=PLift.up (And.intro aq (And.intro @netO.eq_1 (And.intro @cf (And.intro bn (And.intro b7 (And.intro cd (And.intro ch (And.intro bb (And.intro @if_pos.{1} (And.intro @cx (And.intro @cw (And.intro @bo @trivial))))))))))))
theorem L6:type_of% zBDen1.down:=zBDen1.down
theorem Tf (f:NF) (N:Net) (v:Nat) (hv:v < N.ends.length) (hd:(gl N.ends v).length ≤ 262144):DCalls Tryz.prog 154 [.agg (be f N),.c (.p (.int .i64 v))] (fun r=>r = [.own false [.sl true 3 1 ((i5 N v (gl N.ends v).length).map iC)]]):=by
 refine aw Tryz.func154 rfl (by rw [Tryz.ntmps154]; simp) fun w0=>?_;rw [Tryz.ntmps154];have dX:=L6;simp only [bw,bf,Arg.av,be,b9,ints,ends];refine ab (dR fun K hK=>?_);(repeat refine eV ?_);refine aa (hK _ (wK [1,2] ?_));clear hK K;refine ab (dR fun K hK=>?_);(repeat refine eV ?_);refine aa (hK _ (wK [1,2,5] ?_));clear hK K;refine ab ?_;refine ab (dR fun K hK=>?_);(repeat refine eV ?_);refine aa (hK _ (wK [5,12,13,14] ?_));clear hK K;refine ac ?_;refine pm 5 3 1 (by decide) (by simp only [ae,pZ,simprocAttr]) [5,12,13,14] (by simp only [ae,pZ,simprocAttr]; exact rfl) ?_;refine ax (X:=Nat) (fun k=>k ≤ (gl N.ends v).length) (fun k=>[(14,.c (.p (.int .i64 k)))]) (fun k=>[((5,0),⟨none,[.sl true 3 1 ((i5 N v k).map iC)]⟩)]) (fun k=>(gl N.ends v).length - k) 0 (Nat.zero_le _) (by first | rfl | (simp only [ae,pZ,simprocAttr,Int.natCast_zero] <;> rfl)) ?_;rintro k hk;intro E hE;simp only [ae,pZ,simprocAttr] at hE;subst hE;have hnl:=Tb hk;refine ab (dR fun K hK=>?_);(repeat refine eV ?_);refine aa (hK _ (wK [5,12,13,14,15] ?_));clear hK K;refine ab (dI (fun hb=>?_) (fun hb=>?_))
 ·have hk1:k < (gl N.ends v).length:=by simpa using hb
  have hns:=Qa hk1;refine af ?_;show DW _ _ _ _ _;refine ab (ac ?_);refine ab (dR fun K hK=>?_);(repeat refine eV ?_);refine aa (hK _ (wK [5,7,12,13,14] ?_));clear hK K;refine dR fun K hK=>?_;(repeat refine eV ?_);have dK:=@il;refine aa (hK _ (au [5,12,13,14] ?_));clear hK K;refine dR fun K hK=>?_;(repeat refine eV ?_);have dK:=And.intro @bj @hns;refine aa (hK _ ?_);clear hK K;show ∃ x,_ ∧ _ ∧ Weak _ _;refine ⟨k + 1,?_,?_,ay [5,12,13,14]⟩
  ·omega
  ·omega
 ·have hk2:k = (gl N.ends v).length:=by
   have:¬ k < (gl N.ends v).length:=by simpa using hb
   omega
  refine an ?_;refine wK [5] ?_;refine ab (dR fun K hK=>?_);(repeat refine eV ?_);refine aa (hK _ (wK [4] ?_));clear hK K;exact ai (am Tryz.results154 (.one (.own _ _ _ _ rfl rfl (own1 (cq _ _)))) (by decide) (by rw [hk2]))
def neJoinSt6:Nat → Stat
 | 0=>⟨[7],[(7,1)],[],[29],[],[]⟩
 | 1=>⟨[29],[(7,1)],[],[30],[],[]⟩
 | 2=>⟨[1],[],[],[31],[],[]⟩
 | 3=>⟨[7],[(7,1)],[],[32],[],[]⟩
 | 4=>⟨[32],[(7,1)],[],[33],[],[]⟩
 | 5=>⟨[1],[],[],[34],[],[]⟩
 | 6=>⟨[33,34],[(7,1)],[],[35],[],[]⟩
 | 7=>⟨[35],[(7,2)],[],[36],[],[]⟩
 | 8=>⟨[2],[],[],[37],[],[]⟩
 | 9=>⟨[9],[],[],[38],[],[]⟩
 | 10=>⟨[37,38],[],[],[39],[],[]⟩
 | 11=>⟨[39],[],[],[40],[],[]⟩
 | 12=>⟨[36,40],[(7,2),(40,1)],[7,40],[41],[(7,2)],[]⟩
 | 13=>⟨[30,31],[(7,1)],[],[42],[],[]⟩
 | 14=>⟨[42,41],[(7,2)],[41],[],[(7,2),(41,1)],[]⟩
 | _=>⟨[],[],[],[],[],[]⟩
def neJoinSt7:Nat → Stat
 | 0=>⟨[7],[(7,1)],[],[43],[],[]⟩
 | 1=>⟨[43],[(7,1)],[],[44],[],[]⟩
 | 2=>⟨[2],[],[],[45],[],[]⟩
 | 3=>⟨[7],[(7,1)],[],[46],[],[]⟩
 | 4=>⟨[46],[(7,1)],[],[47],[],[]⟩
 | 5=>⟨[2],[],[],[48],[],[]⟩
 | 6=>⟨[47,48],[(7,1)],[],[49],[],[]⟩
 | 7=>⟨[49],[(7,2)],[],[50],[],[]⟩
 | 8=>⟨[1],[],[],[51],[],[]⟩
 | 9=>⟨[8],[],[],[52],[],[]⟩
 | 10=>⟨[51,52],[],[],[53],[],[]⟩
 | 11=>⟨[53],[],[],[54],[],[]⟩
 | 12=>⟨[50,54],[(7,2),(54,1)],[7,54],[55],[(7,2)],[]⟩
 | 13=>⟨[44,45],[(7,1)],[],[56],[],[]⟩
 | 14=>⟨[56,55],[(7,2)],[55],[],[(7,2),(55,1)],[]⟩
 | _=>⟨[],[],[],[],[],[]⟩
theorem Tg (f:NF) (N:Net) (v x:Nat) (hs:er N) (hv:v < N.ends.length) (hx:x < N.ends.length):DCalls Tryz.prog 133 [.agg (be f N),.c (.p (.int .i64 v)),.c (.p (.int .i64 x))] (fun r=>r = [.own true (netO (od N v x))]):=by
 obtain ⟨hs1,hs2,-,-⟩:=id hs;have hdv:=hs2 v hv;have hdx:=hs2 x hx;obtain ⟨j,hj⟩:∃ j,j = (gl N.ends x).length + (if v = x then 1 else 0):=⟨_,rfl⟩;refine aw Tryz.func133 rfl (by rw [Tryz.ntmps133]; simp) fun w0=>?_;rw [Tryz.ntmps133];have dX:=L6;simp only [bw,bf,Arg.av,be,b9,ints,ends];refine ab (dR fun K hK=>?_);(repeat refine eV ?_);refine aa (hK _ (wK [1,2,3,6] ?_));clear hK K;refine ab (dR fun K hK=>?_);(repeat refine eV ?_);refine cL rfl ⟨rfl,_,rfl⟩ (by omega) (by first | exact un) (pf ⟨false,f.t1,f.o2,f.t2,false,f.t3,false,f.t4⟩ N hs) ?_;rintro _ rfl;(repeat refine eV ?_);refine aa (hK _ (wK [1,2,6,7] ?_));clear hK K;have dX:=And.intro dX (@ef);refine ab (dR fun K hK=>?_);(repeat refine eV ?_);refine aa (hK _ (wK [1,2,6,7,8] ?_));clear hK K;have dX:=And.intro dX (@ef);refine ab (dR fun K hK=>?_);(repeat refine eV ?_);refine aa (hK _ (wK [1,2,6,7,8,9] ?_));clear hK K;refine pn (X:=Unit) (fun z=>True) (fun z=>mkE 58 [(1,.c (.p (.int .i64 v))),(2,.c (.p (.int .i64 x))),(6,.box),(7,.box),(8,.c (.p (.int .i64 (gl N.ends v).length))),(9,.c (.p (.int .i64 j)))] [((6,0),⟨some 31,[.p (.slice none 0 0),.p (.slice none 0 0),.p (.slice none 0 0)]⟩),((7,0),⟨some 31,netO N⟩)]) ?_ ?_
 ·refine ab (dR fun K hK=>?_);(repeat refine eV ?_);refine aa (hK _ (wK [1,2,6,7,8,9,26] ?_));clear hK K;refine dI ?_ ?_<;>intro hb
  ·have hj1:((gl N.ends x).length:Int) + 1 = j:=by
    have:v = x:=by simp at hb; omega
    rw [hj,if_pos this]; rfl
   refine dR fun K hK=>?_;(repeat refine eV ?_);refine aa (hK _ ?_);clear hK K;show ∃ x,_ ∧ Weak _ _;refine ⟨⟨⟩,?_,(ce _ [1,2,6,7,8,9]).trans (Weak.of_eq (by simp only [ae,pZ,simprocAttr ,hj1] <;> exact rfl))⟩;trivial
  ·have hj1:((gl N.ends x).length:Int) = j:=by
    have:¬ v = x:=by simp at hb; omega
    rw [hj,if_neg this]; rfl
   rw [hj1];refine af ?_;show ∃ x,_ ∧ Weak _ _;refine ⟨⟨⟩,?_,(ce _ [1,2,6,7,8,9]).trans (Weak.of_eq (by simp only [ae,pZ,simprocAttr] <;> exact rfl))⟩;trivial
 ·rintro ⟨⟩ -;obtain ⟨E1,hE1⟩:∃ E1,E1 = N.ends.set v (gl N.ends v ++ [((x:Int),(j:Int))]):=⟨_,rfl⟩;have hl1:E1.length = N.ends.length:=by rw [hE1,List.length_set]
  have hd1:(gl E1 x).length ≤ 262145:=by
   rw [hE1,l8 hv];split
   ·rename_i h; subst h; simp; omega
   ·omega
  have hjn:od N v x = ⟨E1.set x (gl E1 x ++ [((v:Int),((gl N.ends v).length:Int))]),N.ids,N.inputs⟩:=by rw [hE1,hj]; rfl
  have dX:=And.intro dX (And.intro @neJoinSt6.eq_def (And.intro @ef (And.intro @jr (And.intro @List.length_append.{0} @List.length_modify.{0}))));refine ab (cm neJoinSt6 (fun j r=>match j with | _=>True) fun K hK=>?_);(repeat refine dV ?_);have dK:=And.intro @jb (And.intro @mu (Eq.symm hE1));refine ak (hK _ (au [1,2,6,7,8] ?_));clear hK K;have dX:=And.intro dX (And.intro @neJoinSt7.eq_def (And.intro @ef (And.intro @jr (And.intro @List.length_append.{0} (And.intro @List.length_modify.{0} @hl1)))));refine ab (cm neJoinSt7 (fun j r=>match j with | _=>True) fun K hK=>?_);(repeat refine dV ?_);have dK:=And.intro @jb @mu;refine ak (hK _ (au [6,7] ?_));clear hK K;refine ab (dR fun K hK=>?_);(repeat refine eV ?_);refine aa (hK _ (wK [6] ?_));clear hK K;exact ai (am Tryz.results133 (.one (.cell 6 _ _ _ _ rfl rfl aq rfl rfl (ao ⟨_,_,_⟩))) (by decide) (by rw [hjn]; rfl))
def neStubSt2:Nat → Stat
 | 0=>⟨[5],[(5,1)],[],[8],[],[]⟩
 | 1=>⟨[8],[(5,1)],[],[9],[],[]⟩
 | 2=>⟨[1],[],[],[10],[],[]⟩
 | 3=>⟨[5],[(5,1)],[],[11],[],[]⟩
 | 4=>⟨[11],[(5,1)],[],[12],[],[]⟩
 | 5=>⟨[1],[],[],[13],[],[]⟩
 | 6=>⟨[12,13],[(5,1)],[],[14],[],[]⟩
 | 7=>⟨[14],[(5,2)],[],[15],[],[]⟩
 | 8=>⟨[1],[],[],[16],[],[]⟩
 | 9=>⟨[5],[(5,1)],[],[17],[],[]⟩
 | 10=>⟨[17],[(5,1)],[],[18],[],[]⟩
 | 11=>⟨[1],[],[],[19],[],[]⟩
 | 12=>⟨[18,19],[(5,1)],[],[20],[],[]⟩
 | 13=>⟨[20],[(5,2)],[],[21],[],[]⟩
 | 14=>⟨[21],[(5,2)],[],[22],[],[]⟩
 | 15=>⟨[16,22],[],[],[23],[],[]⟩
 | 16=>⟨[23],[],[],[24],[],[]⟩
 | 17=>⟨[15,24],[(5,2),(24,1)],[5,24],[25],[(5,2)],[]⟩
 | 18=>⟨[9,10],[(5,1)],[],[26],[],[]⟩
 | 19=>⟨[26,25],[(5,2)],[25],[],[(5,2),(25,1)],[]⟩
 | _=>⟨[],[],[],[],[],[]⟩
theorem Td (f:NF) (N:Net) (v:Nat) (hs:er N) (hv:v < N.ends.length):DCalls Tryz.prog 144 [.agg (be f N),.c (.p (.int .i64 v))] (fun r=>r = [.own true (netO (Bm N v))]):=by
 obtain ⟨hs1,hs2,-,-⟩:=id hs;have hdv:=hs2 v hv;refine aw Tryz.func144 rfl (by rw [Tryz.ntmps144]; simp) fun w0=>?_;rw [Tryz.ntmps144];have dX:=L6;simp only [bw,bf,Arg.av,be,b9,ints,ends];refine ab (dR fun K hK=>?_);(repeat refine eV ?_);refine aa (hK _ (wK [1,2,4] ?_));clear hK K;refine ab (dR fun K hK=>?_);(repeat refine eV ?_);refine cL rfl ⟨rfl,_,rfl⟩ (by omega) (by first | exact un) (pf ⟨false,f.t1,f.o2,f.t2,false,f.t3,false,f.t4⟩ N hs) ?_;rintro _ rfl;(repeat refine eV ?_);refine aa (hK _ (wK [1,4,5] ?_));clear hK K;have dX:=And.intro dX (And.intro @neStubSt2.eq_def (And.intro @ef (And.intro @jr (And.intro @List.length_append.{0} @List.length_modify.{0}))));refine ab (cm neStubSt2 (fun j r=>match j with | _=>True) fun K hK=>?_);(repeat refine dV ?_);have dK:=And.intro @jb @mu;refine ak (hK _ (au [4,5] ?_));clear hK K;refine ab (dR fun K hK=>?_);(repeat refine eV ?_);refine aa (hK _ (wK [4] ?_));clear hK K;exact ai (am Tryz.results144 (.one (.cell 4 _ _ _ _ rfl rfl aq rfl rfl (ao ⟨_,_,_⟩))) (by decide) rfl)
end
section
open Go Go.RowKit
theorem ky {es:List (Int × Int)} {k:Nat} (h:k < es.length):cg (es.map eC) k 0 = some (.p (.int .i64 (gp es k).1)):=bi.2 ⟨_,by rw [List.getElem?_map,List.getElem?_eq_getElem h]; rfl,by rw [gb h]; rfl⟩
theorem kx {es:List (Int × Int)} {k:Nat} (h:k < es.length):cg (es.map eC) k 1 = some (.p (.int .i64 (gp es k).2)):=bi.2 ⟨_,by rw [List.getElem?_map,List.getElem?_eq_getElem h]; rfl,by rw [gb h]; rfl⟩
theorem Wk (es:List (Int × Int)) (j:Nat) (x y:Int):(((es.map eC).modify j fun row=>row.modify 0 fun _=>C.p (.int .i64 x)).modify j fun row=>row.modify 1 fun _=>C.p (.int .i64 y)) = (es.set j (x,y)).map eC:=by
 apply List.ext_getElem?;intro i;simp only [List.getElem?_modify,List.getElem?_map,List.getElem?_set]
 by_cases h:j = i
 ·subst h
  by_cases hk:j < es.length
  ·simp [List.getElem?_eq_getElem hk,hk,eC]
  ·simp [List.getElem?_eq_none (Nat.le_of_not_lt hk),hk]
 ·simp [h]
theorem oo {t2:TypeId} {ess:List (List (Int × Int))} {a j:Nat} {x y:Int}:(((ess.map (esC t2)).modify a fun row=>row.modify 0 ((C.p (.int .i64 x)).put [(j,0)])).modify a fun row=>row.modify 0 ((C.p (.int .i64 y)).put [(j,1)])) = (qm ess a j (x,y)).map (esC t2):=by
 unfold qm;apply List.ext_getElem?;intro i;simp only [List.getElem?_modify,List.getElem?_map,List.getElem?_set]
 by_cases h:a = i
 ·subst h
  by_cases hk:a < ess.length
  ·simp only [List.getElem?_eq_getElem hk,hk,if_true,Option.map_some,esC,jg hk];rw [← Wk];rfl
  ·simp [List.getElem?_eq_none (Nat.le_of_not_lt hk),hk]
 ·simp [h]
def nePortsSt7:Nat → Stat
 | 0=>⟨[7],[(7,1)],[],[33],[],[]⟩
 | 1=>⟨[33],[(7,1)],[],[34],[],[]⟩
 | 2=>⟨[9],[(9,1)],[],[35],[],[]⟩
 | 3=>⟨[35],[(9,1)],[],[36],[],[]⟩
 | 4=>⟨[34,36],[(7,1)],[],[37],[],[]⟩
 | 5=>⟨[37],[(7,2)],[],[38],[],[]⟩
 | 6=>⟨[9],[(9,1)],[],[39],[],[]⟩
 | 7=>⟨[39],[(9,1)],[],[40],[],[]⟩
 | 8=>⟨[1],[],[],[41],[],[]⟩
 | 9=>⟨[2],[],[],[42],[],[]⟩
 | 10=>⟨[8],[],[],[43],[],[]⟩
 | 11=>⟨[42,43],[],[],[44],[],[]⟩
 | 12=>⟨[44],[],[],[45],[],[]⟩
 | 13=>⟨[41,45],[],[],[46],[],[]⟩
 | 14=>⟨[38,40],[(7,2)],[],[47],[],[]⟩
 | 15=>⟨[47,46],[(7,3)],[],[],[(7,3)],[]⟩
 | _=>⟨[],[],[],[],[],[]⟩
def nePortsSt8:Nat → Stat
 | 0=>⟨[7],[(7,1)],[],[48],[],[]⟩
 | 1=>⟨[48],[(7,1)],[],[49],[],[]⟩
 | 2=>⟨[1],[],[],[50],[],[]⟩
 | 3=>⟨[49,50],[(7,1)],[],[51],[],[]⟩
 | 4=>⟨[51],[(7,2)],[],[52],[],[]⟩
 | 5=>⟨[2],[],[],[53],[],[]⟩
 | 6=>⟨[8],[],[],[54],[],[]⟩
 | 7=>⟨[53,54],[],[],[55],[],[]⟩
 | 8=>⟨[55],[],[],[56],[],[]⟩
 | 9=>⟨[9],[(9,1)],[],[57],[],[]⟩
 | 10=>⟨[52,56],[(7,2)],[],[58],[],[]⟩
 | 11=>⟨[58,57],[(7,3)],[9],[],[(7,3),(9,1)],[]⟩
 | _=>⟨[],[],[],[],[],[]⟩
def zBDpo1:=PLift.up (And.intro aq (And.intro @netO.eq_1 (And.intro @cf (And.intro bn (And.intro b7 (And.intro cd (And.intro ch (And.intro bb (And.intro @if_pos.{1} (And.intro @cx (And.intro @cw (And.intro @bo @trivial))))))))))))
theorem jar:type_of% zBDpo1.down:=zBDpo1.down
set_option maxRecDepth 8000 in
set_option maxHeartbeats 0 in
theorem Qc (f:NF) (o:Bool) (t:TypeId) (N:Net) (v:Nat) (π:List Int) (hs:er N) (hv:v < N.ends.length) (hsym:Sym N.ends) (hperm:π.Perm (cp (dg N.ends v))) :
 DCalls Tryz.prog 155 [.agg (be f N),.c (.p (.int .i64 v)),.c (ints o t π)] (fun r=>r = [.own true (netO (K6 N v π))]):=by
 obtain ⟨hs1,hs2,-,-⟩:=id hs;have hdv:=hs2 v hv;have hpl:π.length = dg N.ends v:=by rw [hperm.length_eq]; simp [cp]
 have hdg:dg N.ends v = (gl N.ends v).length:=rfl;refine aw Tryz.func155 rfl (by rw [Tryz.ntmps155]; simp) fun w0=>?_;rw [Tryz.ntmps155];have dX:=jar;simp only [bw,bf,Arg.av,be,b9,ints,ends];refine ab (dR fun K hK=>?_);(repeat refine eV ?_);refine aa (hK _ (wK [1,2,3,6] ?_));clear hK K;refine ab (dR fun K hK=>?_);(repeat refine eV ?_);refine cL rfl ⟨rfl,_,rfl⟩ (by omega) (by first | exact un) (pf ⟨false,f.t1,f.o2,f.t2,false,f.t3,false,f.t4⟩ N hs) ?_;rintro _ rfl;(repeat refine eV ?_);refine aa (hK _ (wK [1,2,3,6,7] ?_));clear hK K;refine ab ?_;refine ab (dR fun K hK=>?_);(repeat refine eV ?_);refine aa (hK _ (wK [1,2,6,7,16,17,18] ?_));clear hK K;refine ac ?_;refine ax (X:=Nat) (fun k=>k ≤ (gl N.ends v).length) (fun k=>[(18,.c (.p (.int .i64 k)))]) (fun k=>[((7,0),⟨some 31,[.sl true 95 1 ((ec N.ends v π k).map (esC 97)),.sl true 3 1 (N.ids.map iC),.sl true 3 1 (N.inputs.map iC)]⟩)]) (fun k=>(gl N.ends v).length - k) 0 (Nat.zero_le _) (by first | rfl | (simp only [ae,pZ,simprocAttr,Int.natCast_zero] <;> rfl)) ?_;rintro k hk;intro E hE;simp only [ae,pZ,simprocAttr] at hE;subst hE;obtain ⟨hKl,hKd,-,-⟩:=ug hsym hv hperm k hk;refine ab (dR fun K hK=>?_);(repeat refine eV ?_);refine aa (hK _ (wK [1,2,6,7,16,17,18,19] ?_));clear hK K;refine ab (dI (fun hb=>?_) (fun hb=>?_))
 ·have hk1:k < (gl N.ends v).length:=by simpa using hb
  obtain ⟨b,j,hbj,hbl,hjl,-⟩:=hsym v k hv hk1;obtain ⟨q,hq,hql⟩:=mm hperm (i:=k) (by omega);have hKv:(gl (ec N.ends v π k) v).length = (gl N.ends v).length:=hKd v;have hKb:(gl (ec N.ends v π k) b).length = (gl N.ends b).length:=hKd b;have hjl':j < (gl N.ends b).length:=hjl;have hbj:gp (gl N.ends v) k = ((b:Int),(j:Int)):=hbj;refine af ?_;show DW _ _ _ _ _;refine ab (ac ?_);have dX:=And.intro dX (@hbj);refine ab (dR fun K hK=>?_);(repeat refine eV ?_);refine aa (hK _ (wK [1,2,6,7,8,9,16,17,18] ?_));clear hK K;refine ab ?_;refine ab (dR fun K hK=>?_);(repeat refine eV ?_);refine aa (hK _ (wK [1,2,6,7,8,9,16,17,18,26] ?_));clear hK K;refine dI ?_ ?_<;>intro hb
  ·have hbv:b = v:=by simp at hb; omega
   subst hbv;refine dR fun K hK=>?_;(repeat refine eV ?_);refine aa (hK _ (wK [1,2,6,7,8,9,16,17,18] ?_));clear hK K;have dX:=And.intro dX (And.intro @nePortsSt8.eq_def (And.intro @ef (And.intro @ky (And.intro @kx (And.intro @hKv @hq)))));refine cm nePortsSt8 (fun j r=>match j with | _=>True) fun K hK=>?_;(repeat refine dV ?_)
   have hst:qm (ec N.ends b π k) b q ((b:Int),gi π j) = ec N.ends b π (k + 1):=by
    show _ = f7 N.ends b π (ec N.ends b π k) k;unfold f7 pt;rw [hbj,hq];simp
   have dK:=And.intro @oo @hst;refine ak (hK _ (au [1,2,6,7,16,17,18] ?_));clear hK K;refine dR fun K hK=>?_;(repeat refine eV ?_);have dK:=@bj;refine aa (hK _ ?_);clear hK K;show ∃ x,_ ∧ _ ∧ Weak _ _;refine ⟨k + 1,?_,?_,ay [1,2,6,7,16,17,18]⟩
   ·omega
   ·omega
  ·have hbv:(b:Int) ≠ (v:Int):=by simpa using hb
   have hst:qm (qm (ec N.ends v π k) b j ((v:Int),gi π k)) v q ((b:Int),(j:Int)) = ec N.ends v π (k + 1):=by
    show _ = f7 N.ends v π (ec N.ends v π k) k;unfold f7 pt;rw [hbj,hq];simp [hbv]
   obtain ⟨E1,hE1⟩:∃ E1,E1 = qm (ec N.ends v π k) b j ((v:Int),gi π k):=⟨_,rfl⟩;have hl1:E1.length = N.ends.length:=by rw [hE1,qw,hKl]
   have hd1:(gl E1 v).length = (gl N.ends v).length:=by
    have:=v8 (ess:=ec N.ends v π k) (a:=b) (j:=j) (p:=((v:Int),gi π k)) (by omega) v;rw [← hE1] at this;exact this.trans (hKd v)
   have dX:=And.intro dX (And.intro @nePortsSt7.eq_def (And.intro @ef (And.intro @ky (And.intro @kx @hKb))));refine cm nePortsSt7 (fun j r=>match j with | _=>True) fun K hK=>?_;(repeat refine dV ?_);have dK:=And.intro @oo (Eq.symm hE1);refine ak (hK _ (au [1,2,6,7,8,9,16,17,18] ?_));clear hK K;have dX:=And.intro dX (And.intro @nePortsSt8.eq_def (And.intro @ef (And.intro @ky (And.intro @kx (And.intro @hd1 @hq)))));refine cm nePortsSt8 (fun j r=>match j with | _=>True) fun K hK=>?_;(repeat refine dV ?_);have dK:=And.intro @oo (And.intro @hE1 @hst);refine ak (hK _ (au [1,2,6,7,16,17,18] ?_));clear hK K;refine dR fun K hK=>?_;(repeat refine eV ?_);have dK:=@bj;refine aa (hK _ ?_);clear hK K;show ∃ x,_ ∧ _ ∧ Weak _ _;refine ⟨k + 1,?_,?_,ay [1,2,6,7,16,17,18]⟩
   ·omega
   ·omega
 ·have hk2:k = dg N.ends v:=by
   have:¬ k < (gl N.ends v).length:=by simpa using hb
   rw [hdg]; omega
  have hall:=K7 hsym hv hperm;rw [← hk2] at hall;refine an ?_;refine bd [6,7] (by simp only [ae,pZ,simprocAttr]; exact rfl) ?_;refine ab (dR fun K hK=>?_);(repeat refine eV ?_);refine aa (hK _ (wK [6] ?_));clear hK K;exact ai (am Tryz.results155 (.one (.cell 6 _ _ _ _ rfl rfl aq rfl rfl (ao ⟨_,_,_⟩))) (by decide) (by show [RV.own true (netO ⟨ec N.ends v π k,N.ids,N.inputs⟩)] = _; rw [hall]; rfl))
def NFo:NF:=⟨true,95,true,97,true,3,true,3⟩
theorem Te (N:Net) (v:Nat) (hv:v < N.ends.length) (hd:(gl N.ends v).length ≤ 262144):DCalls Tryz.prog 154 [.agg (netO N),.c (.p (.int .i64 v))] (fun r=>r = [.own false [.sl true 3 1 ((i5 N v (gl N.ends v).length).map iC)]]):=Tf NFo N v hv hd
theorem ww (N:Net) (v x:Nat) (hs:er N) (hv:v < N.ends.length) (hx:x < N.ends.length):DCalls Tryz.prog 133 [.agg (netO N),.c (.p (.int .i64 v)),.c (.p (.int .i64 x))] (fun r=>r = [.own true (netO (od N v x))]):=Tg NFo N v x hs hv hx
theorem Tc (N:Net) (v:Nat) (hs:er N) (hv:v < N.ends.length):DCalls Tryz.prog 144 [.agg (netO N),.c (.p (.int .i64 v))] (fun r=>r = [.own true (netO (Bm N v))]):=Td NFo N v hs hv
theorem Qb (o:Bool) (t:TypeId) (N:Net) (v:Nat) (π:List Int) (hs:er N) (hv:v < N.ends.length) (hsym:Sym N.ends) (hperm:π.Perm (cp (dg N.ends v))) :
 DCalls Tryz.prog 155 [.agg (netO N),.c (.p (.int .i64 v)),.c (.sl o t 1 (π.map iC))] (fun r=>r = [.own true (netO (K6 N v π))]):=Qc NFo o t N v π hs hv hsym hperm
end
section
open Go Go.RowKit
def Ds (A E:List (List (Int × Int))) (k:Nat):List (List (Int × Int)):=A ++ (E.take k).map (iq A.length)
theorem Pf (A E:List (List (Int × Int))):Ds A E 0 = A:=by simp [Ds]
theorem Pg {A E:List (List (Int × Int))} {k:Nat} (h:k < E.length):Ds A E (k + 1) = Ds A E k ++ [iq A.length (gl E k)]:=by
 unfold Ds;rw [List.take_add_one,List.getElem?_eq_getElem h,jg h,List.map_append,List.append_assoc];rfl
theorem Sa {A E:List (List (Int × Int))} {k:Nat} (h:k ≤ E.length):(Ds A E k).length = A.length + k:=by simp [Ds]; omega
theorem Ks {n i:Nat} {es:List (Int × Int)} (h:i < es.length):iq n (es.take (i + 1)) = iq n (es.take i) ++ [((gp es i).1 + (n:Int),(gp es i).2)]:=by
 unfold iq;rw [List.take_add_one,List.getElem?_eq_getElem h,gb h,List.map_append];rfl
theorem Sm (t2:TypeId) (L:List (List (Int × Int))) (es:List (Int × Int)):L.map (esC t2) ++ [[C.sl true t2 2 (es.map eC)]] = (L ++ [es]).map (esC t2):=by simp [esC]
theorem Vl (xs ys:List Int):xs.map iC ++ ys.map iC = (xs ++ ys).map iC:=by simp
def zBDun1:=PLift.up (And.intro aq (And.intro @netO.eq_1 (And.intro @cf (And.intro bb (And.intro ch (And.intro bn (And.intro b7 (And.intro @if_pos.{1} (And.intro cd (And.intro @cx (And.intro @cw (And.intro @bo @trivial))))))))))))
theorem jam:type_of% zBDun1.down:=zBDun1.down
set_option maxRecDepth 8000 in
set_option maxHeartbeats 0 in
theorem Ew (f f':NF) (M N:Net) (hs:er M) (hs':er N) (hsym:Sym N.ends):DCalls Tryz.prog 117 [.agg (be f M),.agg (be f' N)] (fun r=>r = [.own true (netO (jp M N))]):=by
 obtain ⟨m1,m2,m3,m4⟩:=id hs;obtain ⟨n1,n2,n3,n4⟩:=id hs';refine aw Tryz.func117 rfl (by rw [Tryz.ntmps117]; simp) fun w0=>?_;rw [Tryz.ntmps117];have dX:=jam;simp only [bw,bf,Arg.av,be,b9,ints,ends];refine ab (dR fun K hK=>?_);(repeat refine eV ?_);refine aa (hK _ (wK [2,3,4] ?_));clear hK K;refine ab (dR fun K hK=>?_);(repeat refine eV ?_);refine cL rfl ⟨rfl,_,rfl⟩ (by omega) (by first | exact un) (pf ⟨false,f.t1,f.o2,f.t2,false,f.t3,false,f.t4⟩ M hs) ?_;rintro _ rfl;(repeat refine eV ?_);refine aa (hK _ (wK [2,3,4,5] ?_));clear hK K;refine ab (dR fun K hK=>?_);(repeat refine eV ?_);have dK:=@Vl;refine aa (hK _ (au [2,3,4,5] ?_));clear hK K;refine ab (dR fun K hK=>?_);(repeat refine eV ?_);have dK:=@Vl;refine aa (hK _ (au [2,3,4,5] ?_));clear hK K;refine ab ?_;refine ab (dR fun K hK=>?_);(repeat refine eV ?_);refine aa (hK _ (wK [2,4,5,26,27,28] ?_));clear hK K;refine ac ?_;refine ax (X:=Nat) (fun k=>k ≤ N.ends.length) (fun k=>[(28,.c (.p (.int .i64 k)))]) (fun k=>[((5,0),⟨some 31,[.sl true 95 1 ((Ds M.ends N.ends k).map (esC 97)),.sl true 3 1 ((M.ids ++ N.ids).map iC),.sl true 3 1 ((M.inputs ++ N.inputs).map iC)]⟩)]) (fun k=>N.ends.length - k) 0 (Nat.zero_le _) (by first | rfl | (simp only [ae,pZ,simprocAttr,Int.natCast_zero,Pf] <;> rfl)) ?_;rintro k hk;intro E hE;simp only [ae,pZ,simprocAttr] at hE;subst hE;refine ab (dR fun K hK=>?_);(repeat refine eV ?_);refine aa (hK _ (wK [2,4,5,26,27,28,29] ?_));clear hK K;refine ab (dI (fun hb=>?_) (fun hb=>?_))
 ·have hk1:k < N.ends.length:=by simpa using hb
  have hdk:=n2 k hk1;have hul:=Sa (A:=M.ends) hk;have hus:=Pg (A:=M.ends) hk1;refine af ?_;show DW _ _ _ _ _;refine ab (ac ?_);refine ab (dR fun K hK=>?_);(repeat refine eV ?_);refine aa (hK _ (wK [2,4,5,7,26,27,28] ?_));clear hK K;refine ab (dR fun K hK=>?_);(repeat refine eV ?_);refine aa (hK _ (wK [2,4,5,7,8,26,27,28] ?_));clear hK K;refine ab ?_;refine ab (dR fun K hK=>?_);(repeat refine eV ?_);refine aa (hK _ (wK [2,4,5,8,26,27,28,32,33,34] ?_));clear hK K;refine ac ?_;refine pm 8 97 2 (by decide) (by simp only [ae,pZ,simprocAttr]) [2,4,5,8,26,27,28,32,33,34] (by simp only [ae,pZ,simprocAttr]; exact rfl) ?_;refine ax (X:=Nat) (fun i=>i ≤ (gl N.ends k).length) (fun i=>[(34,.c (.p (.int .i64 i)))]) (fun i=>[((8,0),⟨none,[.sl true 97 2 ((iq M.ends.length ((gl N.ends k).take i)).map eC)]⟩)]) (fun i=>(gl N.ends k).length - i) 0 (Nat.zero_le _) (by first | rfl | (simp only [ae,pZ,simprocAttr,Int.natCast_zero] <;> rfl)) ?_;rintro i hi;intro E hE;simp only [ae,pZ,simprocAttr] at hE;subst hE;have hsl:(iq M.ends.length ((gl N.ends k).take i)).length = i:=by simp [iq]; omega
  refine ab (dR fun K hK=>?_);(repeat refine eV ?_);refine aa (hK _ (wK [2,4,5,8,26,27,28,32,33,34,35] ?_));clear hK K;refine ab (dI (fun hb=>?_) (fun hb=>?_))
  ·have hi1:i < (gl N.ends k).length:=by simpa using hb
   obtain ⟨b',j',hbj,hbl,-,-⟩:=hsym k i hk1 hi1;have hbj:gp (gl N.ends k) i = ((b':Int),(j':Int)):=hbj;have hss:=Ks (n:=M.ends.length) hi1;rw [hbj] at hss;dsimp only at hss;refine af ?_;show DW _ _ _ _ _;refine ab (ac ?_);have dX:=And.intro dX (@hbj);refine ab (dR fun K hK=>?_);(repeat refine eV ?_);refine aa (hK _ (wK [2,4,5,8,10,26,27,28,32,33,34] ?_));clear hK K;refine dR fun K hK=>?_;(repeat refine eV ?_);have dK:=@jb;refine aa (hK _ (au [2,4,5,8,26,27,28,32,33,34] ?_));clear hK K;refine dR fun K hK=>?_;(repeat refine eV ?_);have dK:=And.intro @bj @hss;refine aa (hK _ ?_);clear hK K;show ∃ x,_ ∧ _ ∧ Weak _ _;refine ⟨i + 1,?_,?_,ay [2,4,5,8,26,27,28,32,33,34]⟩
   ·omega
   ·omega
  ·have hi2:i = (gl N.ends k).length:=by
    have:¬ i < (gl N.ends k).length:=by simpa using hb
    omega
   have htk:(gl N.ends k).take i = gl N.ends k:=by rw [hi2,List.take_length]
   refine an ?_;refine bd [2,4,5,8,26,27,28] (by simp only [ae,pZ,simprocAttr,htk]; exact rfl) ?_;refine dR fun K hK=>?_;(repeat refine eV ?_);have dK:=And.intro @je @Sm;refine aa (hK _ (au [2,4,5,26,27,28] ?_));clear hK K;refine dR fun K hK=>?_;(repeat refine eV ?_);have dK:=And.intro @bj @hus;refine aa (hK _ ?_);clear hK K;show ∃ x,_ ∧ _ ∧ Weak _ _;refine ⟨k + 1,?_,?_,ay [2,4,5,26,27,28]⟩
   ·omega
   ·omega
 ·have hk2:k = N.ends.length:=by
   have:¬ k < N.ends.length:=by simpa using hb
   omega
  have hun:jp M N = ⟨Ds M.ends N.ends k,M.ids ++ N.ids,M.inputs ++ N.inputs⟩:=by rw [hk2]; simp [jp,lr,Ds]
  refine an ?_;refine bd [4,5] (by simp only [ae,pZ,simprocAttr]; exact rfl) ?_;refine ab (dR fun K hK=>?_);(repeat refine eV ?_);refine aa (hK _ (wK [4] ?_));clear hK K;exact ai (am Tryz.results117 (.one (.cell 4 _ _ _ _ rfl rfl aq rfl rfl (ao ⟨_,_,_⟩))) (by decide) (by rw [hun]; rfl))
theorem Ev (M N:Net) (hs:er M) (hs':er N) (hsym:Sym N.ends):DCalls Tryz.prog 117 [.agg (netO M),.agg (netO N)] (fun r=>r = [.own true (netO (jp M N))]):=Ew NFo NFo M N hs hs' hsym
end
end Go.Proofs.YtfknckinfcicbaaGreat

/- Parts of the proof. -/
import Derived.Test.YtfknckinfcicbaaGreatCDcu
import Derived.Test.YtfknckinfcicbaaGreatCJn31
import Derived.Test.YtfknckinfcicbaaGreatCJn7
import Derived.Test.YtfknckinfcicbaaGreatCJn19
import Derived.Test.YtfknckinfcicbaaGreatCDt
import Derived.Test.YtfknckinfcicbaaGreatCJn17
import Derived.Test.YtfknckinfcicbaaGreatCJn9
set_option linter.unusedSimpArgs false
set_option linter.unusedVariables false
namespace Go.Proofs.YtfknckinfcicbaaGreat
section
open Go Go.RowKit
def NFz:NF:=⟨false,95,true,97,false,3,false,3⟩
def netZ (N:Net):List C:=[.sl false 95 1 (N.ends.map (esC 97)),.sl false 3 1 (N.ids.map iC),.sl false 3 1 (N.inputs.map iC)]
def jc5 (N N':Net):Prop:=N'.ends = N.ends ∧ N'.inputs = N.inputs ∧ N'.ids.length = N.ends.length
def withIdsSt10:Nat → Stat
 | 0=>⟨[3],[(3,1)],[],[33],[],[]⟩
 | 1=>⟨[33],[(3,1)],[],[34],[],[]⟩
 | 2=>⟨[8],[],[],[35],[],[]⟩
 | 3=>⟨[35],[],[],[36],[],[]⟩
 | 4=>⟨[36],[],[],[37],[],[]⟩
 | 5=>⟨[0],[],[],[38],[],[]⟩
 | 6=>⟨[38],[],[46],[39],[(46,1)],[]⟩
 | 7=>⟨[37,39],[],[],[40],[],[]⟩
 | 8=>⟨[40],[],[],[41],[],[]⟩
 | 9=>⟨[34,41],[(3,1),(41,1)],[3,41],[42],[(3,1)],[]⟩
 | 10=>⟨[3],[(3,1)],[],[43],[],[]⟩
 | 11=>⟨[43,42],[(3,1)],[42],[],[(3,1),(42,1)],[]⟩
 | _=>⟨[],[],[],[],[],[]⟩
def zBDwi1:=PLift.up (And.intro aq (And.intro @cf (And.intro bb (And.intro bn (And.intro b7 (And.intro ch (And.intro @if_pos.{1} (And.intro @netO.eq_1 @trivial))))))))
theorem jal:type_of% zBDwi1.down:=zBDwi1.down
set_option maxRecDepth 8000 in
set_option maxHeartbeats 0 in
theorem Eb (bs:List Int) (p:Nat) (s:Int) (f:NF) (N:Net) (B:Nat) (hby:dp bs) (hp:p ≤ B) (hB:B + 4194304 ≤ 4611686018427387900) (hs:er N):dr Tryz.prog 131 [.io 69 (curC bs p s),.agg (be f N)] (CurO bs (B + 4194304) fun rs=>∃ M,rs = [.own true (netO M)] ∧ jc5 N M):=by
 obtain ⟨n1,n2,n3,n4⟩:=id hs;refine fz Tryz.func131 rfl (by rw [Tryz.ntmps131]; simp) fun w0=>?_;rw [Tryz.ntmps131];have dX:=jal;simp only [jt,bf,Arg.av,curC,be,b9,ints,ends];refine ab (dR fun K hK=>?_);(repeat refine eV ?_);refine aa (hK _ (wK [0,3,4,46] ?_));clear hK K;refine ab (dR fun K hK=>?_);(repeat refine eV ?_);refine cL rfl ⟨rfl,_,rfl⟩ (by omega) (by first | exact un) (pf ⟨false,f.t1,f.o2,f.t2,false,f.t3,false,f.t4⟩ N hs) ?_;rintro _ rfl;(repeat refine eV ?_);refine aa (hK _ (wK [0,3,4,46] ?_));clear hK K;refine ab (dR fun K hK=>?_);(repeat refine eV ?_);refine aa (hK _ (wK [0,3,4,46] ?_));clear hK K;refine ab (dR fun K hK=>?_);(repeat refine eV ?_);refine kg rfl ⟨rfl,_,rfl⟩ (by omega) (by first | exact tr) (tq bs p s 2 _ hby hp (by omega)) ?_;rintro _ ⟨p1,s1,_,rfl,hp1,b1,rfl⟩;refine ioF ?_;(repeat refine eV ?_);refine aa (hK _ (wK [0,3,4,5,46] ?_));clear hK K;refine ab (dR fun K hK=>?_);(repeat refine eV ?_);refine kg rfl ⟨rfl,_,rfl⟩ (by omega) (by first | exact Ey) (B5 bs p1 s1 N.ends.length _ hby hp1 (by omega) (by omega)) ?_;rintro _ ⟨p2,s2,_,rfl,hp2,π,rfl,hπ⟩;refine ioF ?_;(repeat refine eV ?_);have hpl:π.length = N.ends.length:=by rw [hπ.length_eq]; simp [cp]
 refine aa (hK _ (wK [0,3,4,5,6,46] ?_));clear hK K;refine ab ?_;have dX:=And.intro dX (@hpl);refine ab (dR fun K hK=>?_);(repeat refine eV ?_);refine aa (hK _ (wK [0,3,4,5,6,19,20,21,46] ?_));clear hK K;refine ac ?_;refine az 3 1 3 1 (by decide) (by simp only [ae,pZ,simprocAttr]; exact rfl) rfl [0,3,4,5,6,19,20,21,46] (by simp only [ae,pZ,simprocAttr]; exact rfl) ?_;refine ax (X:=List Int × Nat × Nat × Int) (fun x=>x.2.1 ≤ N.ends.length ∧ x.1.length = x.2.1 ∧ x.2.2.1 ≤ B + 2 + 2 * N.ends.length + 2 * x.2.1) (fun x=>[(21,.c (.p (.int .i64 x.2.1)))]) (fun x=>[((3,0),⟨some 31,[.sl true 95 1 (N.ends.map (esC 97)),.sl true 3 1 (x.1.map iC),.sl true 3 1 (N.inputs.map iC)]⟩),((46,0),⟨some 69,[.sl false 5 1 (bs.map bC),.p (.int .i64 x.2.2.1),.p (.int .u64 x.2.2.2)]⟩)]) (fun x=>N.ends.length - x.2.1) ([],0,p2,s2) ⟨Nat.zero_le _,rfl,hp2⟩ (by first | rfl | (simp only [ae,pZ,simprocAttr,Int.natCast_zero] <;> rfl)) ?_;rintro ⟨L,i,q,u⟩ ⟨hi,hL,hq⟩;intro E hE;simp only [ae,pZ,simprocAttr] at hE;subst hE;dsimp only at hi hL hq ⊢;refine ab (dR fun K hK=>?_);(repeat refine eV ?_);refine aa (hK _ (wK [0,3,4,5,6,19,20,21,22,46] ?_));clear hK K;refine ab (dI (fun hb=>?_) (fun hb=>?_))
 ·have hi1:i < N.ends.length:=by simpa using hb
  obtain ⟨kk,hkk,hkl⟩:=mm hπ (i:=i) hi1;refine af ?_;show DW _ _ _ _ _;refine ab (ac ?_);have dX:=And.intro dX (@hkk);refine ab (dR fun K hK=>?_);(repeat refine eV ?_);refine aa (hK _ (wK [0,3,4,5,6,8,19,20,21,46] ?_));clear hK K;refine ab (dR fun K hK=>?_);(repeat refine eV ?_);refine aa (hK _ (wK [0,3,4,5,6,8,19,20,21,25,46] ?_));clear hK K;refine dI ?_ ?_<;>intro hb
  ·refine dR fun K hK=>?_;(repeat refine eV ?_);have dK:=@il;refine aa (hK _ (au [0,3,4,5,6,19,20,21,46] ?_));clear hK K;refine dR fun K hK=>?_;(repeat refine eV ?_);have dK:=@bj;refine aa (hK _ ?_);clear hK K;show ∃ x,_ ∧ _ ∧ Weak _ _;refine ⟨(L ++ [(kk:Int) + 1],i + 1,q,u),?_,?_,ay [0,3,4,5,6,19,20,21,46]⟩
   ·exact ⟨by dsimp only; omega,by simp [hL],by dsimp only; omega⟩
   ·dsimp only; omega
  ·have dX:=And.intro dX (@withIdsSt10.eq_def);refine cm withIdsSt10 (fun j r=>match j with | 6=>CurO bs (B + 2 + 2 * N.ends.length + 2 * i + 2) (fun rs=>∃ x,rs = [.c (.p (.int .i64 x))] ∧ n5 20000 x) r | _=>True) fun K hK=>?_;(repeat refine dV ?_);have dX:=And.intro dX (@withIdsSt10.eq_def);refine rx rfl ⟨rfl,_,rfl⟩ (by omega) (by first | exact fg) (ew bs q u 20000 (B + 2 + 2 * N.ends.length + 2 * i) hby hq (by omega)) (CurO.ex ⟨_,0,rfl,tn _⟩) ?_;rintro _ ⟨q3,u3,_,rfl,hq3,x3,rfl,hx3⟩;refine po ?_;(repeat refine dV ?_);have hx31:=hx3.1;have hx32:=hx3.2.1;have dX:=And.intro dX (@withIdsSt10.eq_def);(repeat refine dV ?_);have dK:=@il;refine ak (hK _ (au [0,3,4,5,6,19,20,21,46] ?_));clear hK K;refine dR fun K hK=>?_;(repeat refine eV ?_);have dK:=@bj;refine aa (hK _ ?_);clear hK K;show ∃ x,_ ∧ _ ∧ Weak _ _;refine ⟨(L ++ [1 + (kk:Int) * 20000 + x3],i + 1,q3,u3),?_,?_,ay [0,3,4,5,6,19,20,21,46]⟩
   ·exact ⟨by dsimp only; omega,by simp [hL],by dsimp only; omega⟩
   ·dsimp only; omega
 ·have hi2:i = N.ends.length:=by
   have:¬ i < N.ends.length:=by simpa using hb
   omega
  refine an ?_;refine bd [0,3,4,46] (by simp only [ae,pZ,simprocAttr]; exact rfl) ?_;refine ab (dR fun K hK=>?_);(repeat refine eV ?_);refine aa (hK _ (wK [4,46] ?_));clear hK K;exact ai (b6 Tryz.results131 Tryz.ntmps131 (.one (.re _ _ (.cell 4 _ _ _ _ rfl rfl aq rfl rfl (ao ⟨N.ends,L,N.inputs⟩)))) (by decide) (by decide) rfl rfl rfl ⟨q,u,_,rfl,by omega,⟨N.ends,L,N.inputs⟩,rfl,rfl,rfl,hL.trans hi2⟩)
end
section
open Go Go.RowKit
def neBendSt5:Nat → Stat
 | 0=>⟨[3],[(3,1)],[],[17],[],[]⟩
 | 1=>⟨[17],[(3,1)],[],[18],[],[]⟩
 | 2=>⟨[5],[],[],[19],[],[]⟩
 | 3=>⟨[0],[],[],[20],[],[]⟩
 | 4=>⟨[],[],[],[21],[],[]⟩
 | 5=>⟨[20,21],[],[147,21],[22],[(147,1)],[]⟩
 | 6=>⟨[18,19],[(3,1)],[],[23],[],[]⟩
 | 7=>⟨[23,22],[(3,2)],[],[],[(3,2)],[]⟩
 | _=>⟨[],[],[],[],[],[]⟩
def neBendSt10:Nat → Stat
 | 0=>⟨[3],[(3,1)],[],[40],[],[]⟩
 | 1=>⟨[40],[(3,1)],[],[41],[],[]⟩
 | 2=>⟨[5],[],[],[42],[],[]⟩
 | 3=>⟨[41,42],[(3,1)],[],[43],[],[]⟩
 | 4=>⟨[43],[(3,2)],[],[44],[],[]⟩
 | 5=>⟨[0],[],[],[45],[],[]⟩
 | 6=>⟨[],[],[],[46],[],[]⟩
 | 7=>⟨[45,46],[],[147,46],[47],[(147,1)],[]⟩
 | 8=>⟨[44],[(3,2)],[],[48],[],[]⟩
 | 9=>⟨[48],[(3,3)],[],[49],[],[]⟩
 | 10=>⟨[49,47],[(3,3)],[],[],[(3,3)],[]⟩
 | _=>⟨[],[],[],[],[],[]⟩
def neBendSt13:Nat → Stat
 | 0=>⟨[3],[(3,1)],[],[59],[],[]⟩
 | 1=>⟨[59],[(3,1)],[],[60],[],[]⟩
 | 2=>⟨[5],[],[],[61],[],[]⟩
 | 3=>⟨[60,61],[(3,1)],[],[62],[],[]⟩
 | 4=>⟨[62],[(3,2)],[],[63],[],[]⟩
 | 5=>⟨[0],[],[],[64],[],[]⟩
 | 6=>⟨[3],[(3,1)],[],[65],[],[]⟩
 | 7=>⟨[65],[(3,1)],[],[66],[],[]⟩
 | 8=>⟨[66],[(3,1)],[],[67],[],[]⟩
 | 9=>⟨[67],[],[],[68],[],[]⟩
 | 10=>⟨[64,68],[],[147,68],[69],[(147,1)],[]⟩
 | 11=>⟨[63],[(3,2)],[],[70],[],[]⟩
 | 12=>⟨[70],[(3,3)],[],[71],[],[]⟩
 | 13=>⟨[71,69],[(3,3)],[],[],[(3,3)],[]⟩
 | _=>⟨[],[],[],[],[],[]⟩
def neBendSt15:Nat → Stat
 | 0=>⟨[3],[(3,1)],[],[74],[],[]⟩
 | 1=>⟨[74],[(3,1)],[],[75],[],[]⟩
 | 2=>⟨[5],[],[],[76],[],[]⟩
 | 3=>⟨[75,76],[(3,1)],[],[77],[],[]⟩
 | 4=>⟨[77],[(3,2)],[],[78],[],[]⟩
 | 5=>⟨[78],[(3,2)],[],[79],[],[]⟩
 | 6=>⟨[0],[],[],[80],[],[]⟩
 | 7=>⟨[80],[],[147],[81],[(147,1)],[]⟩
 | 8=>⟨[81],[],[],[82],[],[]⟩
 | 9=>⟨[79,82],[],[],[83],[],[]⟩
 | _=>⟨[],[],[],[],[],[]⟩
def neBendSt16:Nat → Stat
 | 0=>⟨[3],[(3,1)],[],[84],[],[]⟩
 | 1=>⟨[84],[(3,1)],[],[85],[],[]⟩
 | 2=>⟨[5],[],[],[86],[],[]⟩
 | 3=>⟨[3],[(3,1)],[],[87],[],[]⟩
 | 4=>⟨[87],[(3,1)],[],[88],[],[]⟩
 | 5=>⟨[5],[],[],[89],[],[]⟩
 | 6=>⟨[88,89],[(3,1)],[],[90],[],[]⟩
 | 7=>⟨[90],[(3,2)],[],[91],[],[]⟩
 | 8=>⟨[5],[],[],[92],[],[]⟩
 | 9=>⟨[3],[(3,1)],[],[93],[],[]⟩
 | 10=>⟨[93],[(3,1)],[],[94],[],[]⟩
 | 11=>⟨[5],[],[],[95],[],[]⟩
 | 12=>⟨[94,95],[(3,1)],[],[96],[],[]⟩
 | 13=>⟨[96],[(3,2)],[],[97],[],[]⟩
 | 14=>⟨[97],[(3,2)],[],[98],[],[]⟩
 | 15=>⟨[92,98],[],[],[99],[],[]⟩
 | 16=>⟨[99],[],[],[100],[],[]⟩
 | 17=>⟨[91,100],[(3,2),(100,1)],[3,100],[101],[(3,2)],[]⟩
 | 18=>⟨[85,86],[(3,1)],[],[102],[],[]⟩
 | 19=>⟨[102,101],[(3,2)],[101],[],[(3,2),(101,1)],[]⟩
 | _=>⟨[],[],[],[],[],[]⟩
def neBendSt19:Nat → Stat
 | 0=>⟨[3],[(3,1)],[],[108],[],[]⟩
 | 1=>⟨[108],[(3,1)],[],[109],[],[]⟩
 | 2=>⟨[5],[],[],[110],[],[]⟩
 | 3=>⟨[0],[],[],[111],[],[]⟩
 | 4=>⟨[3],[(3,1)],[],[112],[],[]⟩
 | 5=>⟨[112],[(3,1)],[],[113],[],[]⟩
 | 6=>⟨[113],[(3,1)],[],[114],[],[]⟩
 | 7=>⟨[114],[(3,2)],[],[115],[],[]⟩
 | 8=>⟨[115],[],[],[116],[],[]⟩
 | 9=>⟨[111,116],[],[147,116],[117],[(147,1)],[]⟩
 | 10=>⟨[109,110],[(3,1)],[],[118],[],[]⟩
 | 11=>⟨[118,117],[(3,2)],[],[],[(3,2)],[]⟩
 | _=>⟨[],[],[],[],[],[]⟩
def neBendSt23:Nat → Stat
 | 0=>⟨[3],[(3,1)],[],[125],[],[]⟩
 | 1=>⟨[125],[(3,1)],[],[126],[],[]⟩
 | 2=>⟨[126],[(3,1)],[],[127],[],[]⟩
 | 3=>⟨[0],[],[],[128],[],[]⟩
 | 4=>⟨[128],[],[147],[129],[(147,1)],[]⟩
 | 5=>⟨[129],[],[],[130],[],[]⟩
 | 6=>⟨[127,130],[],[],[131],[],[]⟩
 | _=>⟨[],[],[],[],[],[]⟩
theorem Sv (es:List (Int × Int)) (j:Nat) (x:Int):((es.map eC).modify j fun row=>row.modify 0 fun _=>C.p (.int .i64 x)) = (es.set j (x,(gp es j).2)).map eC:=by
 apply List.ext_getElem?;intro i;simp only [List.getElem?_modify,List.getElem?_map,List.getElem?_set]
 by_cases h:j = i
 ·subst h
  by_cases hk:j < es.length
  ·simp [List.getElem?_eq_getElem hk,hk,eC,gb hk]
  ·simp [List.getElem?_eq_none (Nat.le_of_not_lt hk),hk]
 ·simp [h]
theorem Su (es:List (Int × Int)) (j:Nat) (y:Int):((es.map eC).modify j fun row=>row.modify 1 fun _=>C.p (.int .i64 y)) = (es.set j ((gp es j).1,y)).map eC:=by
 apply List.ext_getElem?;intro i;simp only [List.getElem?_modify,List.getElem?_map,List.getElem?_set]
 by_cases h:j = i
 ·subst h
  by_cases hk:j < es.length
  ·simp [List.getElem?_eq_getElem hk,hk,eC,gb hk]
  ·simp [List.getElem?_eq_none (Nat.le_of_not_lt hk),hk]
 ·simp [h]
theorem Uo {t2:TypeId} {ess:List (List (Int × Int))} {a:Nat} {es':List (Int × Int)} {g:C → C} (h:g (.sl true t2 2 ((gl ess a).map eC)) = .sl true t2 2 (es'.map eC)):((ess.map (esC t2)).modify a fun row=>row.modify 0 g) = (ess.set a es').map (esC t2):=by
 apply List.ext_getElem?;intro i;simp only [List.getElem?_modify,List.getElem?_map,List.getElem?_set]
 by_cases hi:a = i
 ·subst hi
  by_cases hk:a < ess.length
  ·rw [jg hk] at h;simp only [List.getElem?_eq_getElem hk,hk,if_true,Option.map_some,esC];rw [← h]; rfl
  ·simp [List.getElem?_eq_none (Nat.le_of_not_lt hk),hk]
 ·simp [hi]
theorem Xn {t2:TypeId} {ess:List (List (Int × Int))} {a j:Nat} {x:Int}:((ess.map (esC t2)).modify a fun row=>row.modify 0 ((C.p (.int .i64 x)).put [(j,0)])) = (ess.set a ((gl ess a).set j (x,(gp (gl ess a) j).2))).map (esC t2):=Uo (by rw [← Sv]; rfl)
theorem Xm {t2:TypeId} {ess:List (List (Int × Int))} {a j:Nat} {y:Int}:((ess.map (esC t2)).modify a fun row=>row.modify 0 ((C.p (.int .i64 y)).put [(j,1)])) = (ess.set a ((gl ess a).set j ((gp (gl ess a) j).1,y))).map (esC t2):=Uo (by rw [← Su]; rfl)
theorem sf (t2:TypeId) (L:List (List (Int × Int))):L.map (esC t2) ++ [[C.sl true t2 2 []]] = (L ++ [[]]).map (esC t2):=by simp [esC]
theorem yr {α:Type} {g:α → List C} {xs:List α} {c:C} {t k:Nat} {tl:List C}:look (.sl true t k (xs.map g ++ [[c]]) :: tl) [(0,0),(xs.length,0)] = some c:=by
 show (cg (xs.map g ++ [[c]]) xs.length 0).bind (fun y=>y.at []) = some c;have:cg (xs.map g ++ [[c]]) xs.length 0 = some c:=bi.2 ⟨[c],by simp,rfl⟩;rw [this]; exact da c
theorem Tame.turn {N:Net} (h:Tame N) {v:Nat} (hv:v < N.ends.length) (es:List (Int × Int)) (hes:es.length ≤ 600):Tame ⟨N.ends.set v es,N.ids,N.inputs⟩ :=
 ⟨by show (N.ends.set v es).length ≤ 64; rw [List.length_set]; exact h.len,fun a=>by show dg (N.ends.set v es) a ≤ 600; rw [jaa hv]; split; exact hes; exact h.deg a,h.ids,h.ins⟩
def zBDbe1:=PLift.up (And.intro aq (And.intro @cf (And.intro bn (And.intro b7 (And.intro bb (And.intro ch (And.intro @if_pos.{1} (And.intro cd (And.intro @netO.eq_1 (And.intro @netZ.eq_1 @trivial))))))))))
theorem jaz:type_of% zBDbe1.down:=zBDbe1.down
set_option maxRecDepth 8000 in
set_option maxHeartbeats 0 in
theorem I0 (bs:List Int) (p:Nat) (s:Int) (f:NF) (N:Net) (B:Nat) (hby:dp bs) (hp:p ≤ B) (hB:B + 16777216 ≤ 4611686018427387900) (hD:Drawn 40 500 N):dr Tryz.prog 91 [.io 69 (curC bs p s),.agg (be f N)] (CurO bs (B + 16777216) fun rs=>∃ M,rs = [.own true (netO M)] ∧ Tame M):=by
 have hs:er N:=hD.small (by omega) (by omega);obtain ⟨d1,d2,d3,d4,d5,d6⟩:=id hD;have hT:Tame N:=hD.tame (by omega) (by omega);refine fz Tryz.func91 rfl (by rw [Tryz.ntmps91]; simp) fun w0=>?_;rw [Tryz.ntmps91];have dX:=jaz;simp only [jt,bf,Arg.av,curC,be,b9,ints,ends];refine ab (dR fun K hK=>?_);(repeat refine eV ?_);refine aa (hK _ (wK [0,3,4,147] ?_));clear hK K;refine ab (dR fun K hK=>?_);(repeat refine eV ?_);refine cL rfl ⟨rfl,_,rfl⟩ (by omega) (by first | exact un) (pf ⟨false,f.t1,f.o2,f.t2,false,f.t3,false,f.t4⟩ N hs) ?_;rintro _ rfl;(repeat refine eV ?_);refine aa (hK _ (wK [0,3,4,147] ?_));clear hK K;refine ab (dR fun K hK=>?_);(repeat refine eV ?_);refine kg rfl ⟨rfl,_,rfl⟩ (by omega) (by first | exact fg) (ew bs p s (N.ends.length:Int) _ hby hp (by omega)) ?_;rintro _ ⟨p1,s1,_,rfl,hp1,x1,rfl,hx1⟩;refine ioF ?_;(repeat refine eV ?_);obtain ⟨v,rfl⟩:∃ v:Nat,x1 = v:=⟨x1.toNat,by have:=hx1.1; omega⟩;have hv:v < N.ends.length:=by have:=hx1.2.2; omega
 have hvi:v < N.inputs.length:=by omega
 have hdv:(gl N.ends v).length ≤ 500:=d4 v;refine aa (hK _ (wK [0,3,4,5,147] ?_));clear hK K;refine ab ?_;refine ab (dR fun K hK=>?_);(repeat refine eV ?_);refine kg rfl ⟨rfl,_,rfl⟩ (by omega) (by first | exact fg) (ew bs p1 s1 40 _ hby hp1 (by omega)) ?_;rintro _ ⟨p2,s2,_,rfl,hp2,x2,rfl,hx2⟩;refine ioF ?_;(repeat refine eV ?_);refine aa (hK _ (wK [0,3,4,5,14,147] ?_));clear hK K;refine ac ?_;refine ab (dR fun K hK=>?_);(repeat refine eV ?_);refine aa (hK _ (wK [0,3,4,5,14,15,147] ?_));clear hK K;refine dI ?_ ?_<;>intro hb
 ·have dX:=And.intro dX (@neBendSt5.eq_def);refine cm neBendSt5 (fun j r=>match j with | 5=>CurO bs (B + 2 + 2 + 2) (fun rs=>∃ x,rs = [.c (.p (.int .i64 x))] ∧ vl [-1,9,10] x) r | _=>True) fun K hK=>?_;(repeat refine dV ?_);have dX:=And.intro dX (@neBendSt5.eq_def);refine rx rfl ⟨rfl,_,rfl⟩ (by omega) (by first | exact Ez) (xl bs p2 s2 true 3 [-1,9,10] (B + 2 + 2) hby hp2 (by omega) (by simp) (by simp)) (CurO.ex ⟨_,_,rfl,0,by simp,rfl⟩) ?_;rintro _ ⟨p3,s3,_,rfl,hp3,x3,rfl,hx3⟩;refine po ?_;(repeat refine dV ?_);have dK:=@lv;refine ak (hK _ (au [3,4,147] ?_));clear hK K;refine ab (dR fun K hK=>?_);(repeat refine eV ?_);refine aa (hK _ (wK [4,147] ?_));clear hK K;exact ai (b6 Tryz.results91 Tryz.ntmps91 (.one (.re _ _ (.cell 4 _ _ _ _ rfl rfl aq rfl rfl (ao ⟨N.ends,N.ids,N.inputs.set v x3⟩)))) (by decide) (by decide) rfl rfl rfl ⟨p3,s3,_,rfl,by omega,⟨N.ends,N.ids,N.inputs.set v x3⟩,rfl,⟨hT.len,hT.deg,hT.ids,by simpa using hT.ins⟩⟩)
 ·refine ab (dR fun K hK=>?_);(repeat refine eV ?_);refine aa (hK _ (wK [0,3,4,5,14,24,147] ?_));clear hK K;refine dI ?_ ?_<;>intro hb
  ·refine dR fun K hK=>?_;(repeat refine eV ?_);have dK:=@il;refine aa (hK _ (au [3,4,147] ?_));clear hK K;refine ab (dR fun K hK=>?_);(repeat refine eV ?_);refine aa (hK _ (wK [4,147] ?_));clear hK K;exact ai (b6 Tryz.results91 Tryz.ntmps91 (.one (.re _ _ (.cell 4 _ _ _ _ rfl rfl aq rfl rfl (ao ⟨N.ends,N.ids,N.inputs ++ [0]⟩)))) (by decide) (by decide) rfl rfl rfl ⟨p2,s2,_,rfl,by omega,⟨N.ends,N.ids,N.inputs ++ [0]⟩,rfl,⟨hT.len,hT.deg,hT.ids,by simp; omega⟩⟩)
  ·refine ab (dR fun K hK=>?_);(repeat refine eV ?_);refine aa (hK _ (wK [0,3,4,5,14,31,147] ?_));clear hK K;refine dI ?_ ?_<;>intro hb
   ·have dX:=And.intro dX (@ef);refine ab (dR fun K hK=>?_);(repeat refine eV ?_);refine aa (hK _ (wK [0,3,4,5,39,147] ?_));clear hK K;refine dI ?_ ?_<;>intro hb
    ·have hl0:0 < (gl N.ends v).length:=by simp at hb; omega
     have dX:=And.intro dX (And.intro @neBendSt10.eq_def (And.intro @ef (And.intro @ky @kx)));refine cm neBendSt10 (fun j r=>match j with | 7=>CurO bs (B + 2 + 2 + 2) (fun rs=>∃ x,rs = [.c (.p (.int .i64 x))] ∧ vl [-1,0,1,6] x) r | _=>True) fun K hK=>?_;(repeat refine dV ?_);have dX:=And.intro dX (And.intro @neBendSt10.eq_def (And.intro @ef (And.intro @ky @kx)));refine rx rfl ⟨rfl,_,rfl⟩ (by omega) (by first | exact Ez) (xl bs p2 s2 true 3 [-1,0,1,6] (B + 2 + 2) hby hp2 (by omega) (by simp) (by simp)) (CurO.ex ⟨_,_,rfl,0,by simp,rfl⟩) ?_;rintro _ ⟨p3,s3,_,rfl,hp3,x3,rfl,hx3⟩;refine po ?_;(repeat refine dV ?_);have dK:=@Xm;refine ak (hK _ (au [3,4,147] ?_));clear hK K;refine ab (dR fun K hK=>?_);(repeat refine eV ?_);refine aa (hK _ (wK [4,147] ?_));clear hK K;exact ai (b6 Tryz.results91 Tryz.ntmps91 (.one (.re _ _ (.cell 4 _ _ _ _ rfl rfl aq rfl rfl (ao ⟨N.ends.set v ((gl N.ends v).set 0 ((gp (gl N.ends v) 0).1,x3)),N.ids,N.inputs⟩)))) (by decide) (by decide) rfl rfl rfl ⟨p3,s3,_,rfl,by omega,⟨N.ends.set v ((gl N.ends v).set 0 ((gp (gl N.ends v) 0).1,x3)),N.ids,N.inputs⟩,rfl,hT.turn hv _ (by rw [List.length_set]; omega)⟩)
    ·refine af ?_;show DW _ _ _ _ _;refine ab (dR fun K hK=>?_);(repeat refine eV ?_);refine aa (hK _ (wK [4,147] ?_));clear hK K;exact ai (b6 Tryz.results91 Tryz.ntmps91 (.one (.re _ _ (.cell 4 _ _ _ _ rfl rfl aq rfl rfl (ao N)))) (by decide) (by decide) rfl rfl rfl ⟨p2,s2,_,rfl,by omega,N,rfl,hT⟩)
   ·refine ab (dR fun K hK=>?_);(repeat refine eV ?_);refine aa (hK _ (wK [0,3,4,5,14,50,147] ?_));clear hK K;refine dI ?_ ?_<;>intro hb
    ·have dX:=And.intro dX (@ef);refine ab (dR fun K hK=>?_);(repeat refine eV ?_);refine aa (hK _ (wK [0,3,4,5,58,147] ?_));clear hK K;refine dI ?_ ?_<;>intro hb
     ·have hl0:0 < (gl N.ends v).length:=by simp at hb; omega
      have dX:=And.intro dX (And.intro @neBendSt13.eq_def (And.intro @ef (And.intro @ky @kx)));refine cm neBendSt13 (fun j r=>match j with | 10=>CurO bs (B + 2 + 2 + 2) (fun rs=>∃ x,rs = [.c (.p (.int .i64 x))] ∧ vl [-1,0,(N.ends.length:Int)] x) r | _=>True) fun K hK=>?_;(repeat refine dV ?_);have dX:=And.intro dX (And.intro @neBendSt13.eq_def (And.intro @ef (And.intro @ky @kx)));refine rx rfl ⟨rfl,_,rfl⟩ (by omega) (by first | exact Ez) (xl bs p2 s2 true 3 [-1,0,(N.ends.length:Int)] (B + 2 + 2) hby hp2 (by omega) (by simp) (by simp)) (CurO.ex ⟨_,_,rfl,0,by simp,rfl⟩) ?_;rintro _ ⟨p3,s3,_,rfl,hp3,x3,rfl,hx3⟩;refine po ?_;(repeat refine dV ?_);have dK:=@Xn;refine ak (hK _ (au [3,4,147] ?_));clear hK K;refine ab (dR fun K hK=>?_);(repeat refine eV ?_);refine aa (hK _ (wK [4,147] ?_));clear hK K;exact ai (b6 Tryz.results91 Tryz.ntmps91 (.one (.re _ _ (.cell 4 _ _ _ _ rfl rfl aq rfl rfl (ao ⟨N.ends.set v ((gl N.ends v).set 0 (x3,(gp (gl N.ends v) 0).2)),N.ids,N.inputs⟩)))) (by decide) (by decide) rfl rfl rfl ⟨p3,s3,_,rfl,by omega,⟨N.ends.set v ((gl N.ends v).set 0 (x3,(gp (gl N.ends v) 0).2)),N.ids,N.inputs⟩,rfl,hT.turn hv _ (by rw [List.length_set]; omega)⟩)
     ·refine af ?_;show DW _ _ _ _ _;refine ab (dR fun K hK=>?_);(repeat refine eV ?_);refine aa (hK _ (wK [4,147] ?_));clear hK K;exact ai (b6 Tryz.results91 Tryz.ntmps91 (.one (.re _ _ (.cell 4 _ _ _ _ rfl rfl aq rfl rfl (ao N)))) (by decide) (by decide) rfl rfl rfl ⟨p2,s2,_,rfl,by omega,N,rfl,hT⟩)
    ·refine ab (dR fun K hK=>?_);(repeat refine eV ?_);refine aa (hK _ (wK [0,3,4,5,14,72,147] ?_));clear hK K;refine dI ?_ ?_<;>intro hb
     ·have hset0:N.ends.set v (gl N.ends v) = N.ends:=by rw [jg hv]; exact List.set_getElem_self hv
      refine ac ?_;refine bd [0,3,4,5,147] (by simp only [ae,pZ,simprocAttr]; exact rfl) ?_;refine ax (X:=List (Int × Int) × Nat × Int) (fun x=>x.1.length ≤ 500 ∧ x.2.1 + 2 * (8 - x.1.length) ≤ B + 20) (fun x=>[]) (fun x=>[((3,0),⟨some 31,[.sl true 95 1 ((N.ends.set v x.1).map (esC 97)),.sl true 3 1 (N.ids.map iC),.sl true 3 1 (N.inputs.map iC)]⟩),((147,0),⟨some 69,[.sl false 5 1 (bs.map bC),.p (.int .i64 x.2.1),.p (.int .u64 x.2.2)]⟩)]) (fun x=>8 - x.1.length) (gl N.ends v,p2,s2) ⟨hdv,by dsimp only; omega⟩ (by first | rfl | (simp only [ae,pZ,simprocAttr,Int.natCast_zero,hset0] <;> rfl)) ?_;rintro ⟨R,q,u⟩ ⟨hR,hq⟩;intro E hE;simp only [ae,pZ,simprocAttr] at hE;subst hE;dsimp only at hR hq ⊢;have hgs:gl (N.ends.set v R) v = R:=by rw [l8 hv,if_pos rfl]
      have hvs:v < (N.ends.set v R).length:=by rw [List.length_set]; exact hv
      have hrs:∀ t2,cg ((N.ends.set v R).map (esC t2)) v 0 = some (.sl true t2 2 (R.map eC)):=fun t2=>by rw [ef hvs,hgs]
      have hrm:∀ t2 y,cg (((N.ends.set v R).map (esC t2)).modify v fun row=>row.modify 0 fun _=>y) v 0 = some y:=fun t2 y=>jr hvs;refine ab ?_;have dX:=And.intro dX (And.intro @neBendSt15.eq_def (And.intro @hrs @List.length_set.{0}));refine ab (cm neBendSt15 (fun j r=>match j with | 7=>CurO bs (q + 2) (fun rs=>∃ x,rs = [.c (.p (.int .i64 x))] ∧ n5 2 x) r | _=>True) fun K hK=>?_);(repeat refine dV ?_);have dX:=And.intro dX (And.intro @neBendSt15.eq_def (And.intro @hrs @List.length_set.{0}));refine rx rfl ⟨rfl,_,rfl⟩ (by omega) (by first | exact fg) (ew bs q u 2 q hby (Nat.le_refl _) (by omega)) (CurO.ex ⟨_,0,rfl,tn _⟩) ?_;rintro _ ⟨q6,u6,_,rfl,hq6,x6,rfl,hx6⟩;refine po ?_;(repeat refine dV ?_);have hx61:=hx6.1;have hx62:=hx6.2.1;have hx63:=hx6.2.2;have dX:=And.intro dX (@neBendSt15.eq_def);(repeat refine dV ?_);refine ak (hK _ (wK [0,3,4,5,83,147] ?_));clear hK K;refine dI ?_ ?_<;>intro hb
      ·have hR7:R.length < 8:=by rw [show IntKind.i64.wrap (6 + x6) = 6 + x6 from IntWalk.i64_in _ (by omega)] at hb; simp at hb; omega
       refine af ?_;show DW _ _ _ _ _;refine ac ?_;have dX:=And.intro dX (And.intro @neBendSt16.eq_def (And.intro @hrs (And.intro @hrm (And.intro @List.length_set.{0} (And.intro @List.length_append.{0} @List.length_modify.{0})))));refine cm neBendSt16 (fun j r=>match j with | _=>True) fun K hK=>?_;(repeat refine dV ?_);have dK:=And.intro @jb (And.intro @mu (And.intro @hgs @List.set_set.{0}));refine ak (hK _ ?_);clear hK K;show ∃ x,_ ∧ _ ∧ Weak _ _;refine ⟨(R ++ [((v:Int),(R.length:Int))],q6,u6),?_,?_,ay [0,3,4,5,147]⟩
       ·exact ⟨by simp; omega,by simp; omega⟩
       ·simp; omega
      ·refine an ?_;refine bd [3,4,147] (by simp only [ae,pZ,simprocAttr]; exact rfl) ?_;refine ab (dR fun K hK=>?_);(repeat refine eV ?_);refine aa (hK _ (wK [4,147] ?_));clear hK K;exact ai (b6 Tryz.results91 Tryz.ntmps91 (.one (.re _ _ (.cell 4 _ _ _ _ rfl rfl aq rfl rfl (ao ⟨N.ends.set v R,N.ids,N.inputs⟩)))) (by decide) (by decide) rfl rfl rfl ⟨q6,u6,_,rfl,by omega,⟨N.ends.set v R,N.ids,N.inputs⟩,rfl,hT.turn hv R (by omega)⟩)
     ·refine ab (dR fun K hK=>?_);(repeat refine eV ?_);refine aa (hK _ (wK [0,3,4,5,14,103,147] ?_));clear hK K;refine dI ?_ ?_<;>intro hb
      ·refine vj 3 [0,3,4,5,147] (by simp only [ae,pZ,simprocAttr]; exact rfl) ?_;refine ab (dR fun K hK=>?_);(repeat refine eV ?_);refine qn rfl ⟨rfl,_,rfl⟩ (by omega) (by first | exact Tv) (Eb bs p2 s2 NFz N (B + 2 + 2) hby hp2 (by omega) hs) ?_;rintro _ ⟨p7,s7,_,rfl,hp7,M,rfl,hM⟩;refine ioF ?_;(repeat refine eV ?_);refine aa (hK _ (wK [0,3,4,5,147] ?_));clear hK K;obtain ⟨hM1,hM2,hM3⟩:=hM;have hM4:v < M.ids.length:=by omega
       have hM5:0 < M.ids.length:=by omega
       have dX:=And.intro dX (@neBendSt19.eq_def);refine cm neBendSt19 (fun j r=>match j with | 9=>CurO bs (B + 2 + 2 + 4194304 + 2) (fun rs=>∃ x,rs = [.c (.p (.int .i64 x))] ∧ vl [0,1,999999,1000000,gi M.ids 0] x) r | _=>True) fun K hK=>?_;(repeat refine dV ?_);have dX:=And.intro dX (@neBendSt19.eq_def);refine rx rfl ⟨rfl,_,rfl⟩ (by omega) (by first | exact Ez) (xl bs p7 s7 true 3 [0,1,999999,1000000,gi M.ids 0] (B + 2 + 2 + 4194304) hby hp7 (by omega) (by simp) (by simp)) (CurO.ex ⟨_,_,rfl,0,by simp,rfl⟩) ?_;rintro _ ⟨p3,s3,_,rfl,hp3,x3,rfl,hx3⟩;refine po ?_;(repeat refine dV ?_);have dK:=@lv;refine ak (hK _ (au [3,4,147] ?_));clear hK K;refine ab (dR fun K hK=>?_);(repeat refine eV ?_);refine aa (hK _ (wK [4,147] ?_));clear hK K;exact ai (b6 Tryz.results91 Tryz.ntmps91 (.one (.re _ _ (.cell 4 _ _ _ _ rfl rfl aq rfl rfl (ao ⟨M.ends,M.ids.set v x3,M.inputs⟩)))) (by decide) (by decide) rfl rfl rfl ⟨p3,s3,_,rfl,by omega,⟨M.ends,M.ids.set v x3,M.inputs⟩,rfl,⟨by rw [hM1]; exact hT.len,fun a=>by rw [hM1]; exact hT.deg a,by rw [List.length_set]; omega,by rw [hM2]; exact hT.ins⟩⟩)
      ·refine ab (dR fun K hK=>?_);(repeat refine eV ?_);refine aa (hK _ (wK [0,3,4,14,119,147] ?_));clear hK K;refine dI ?_ ?_<;>intro hb
       ·refine dR fun K hK=>?_;(repeat refine eV ?_);refine aa (hK _ (wK [3,4,147] ?_));clear hK K;refine ab (dR fun K hK=>?_);(repeat refine eV ?_);refine aa (hK _ (wK [4,147] ?_));clear hK K;exact ai (b6 Tryz.results91 Tryz.ntmps91 (.one (.re _ _ (.cell 4 _ _ _ _ rfl rfl aq rfl rfl (ao ⟨N.ends,[5],N.inputs⟩)))) (by decide) (by decide) rfl rfl rfl ⟨p2,s2,_,rfl,by omega,⟨N.ends,[5],N.inputs⟩,rfl,⟨hT.len,hT.deg,by simp,hT.ins⟩⟩)
       ·refine ab (dR fun K hK=>?_);(repeat refine eV ?_);refine aa (hK _ (wK [0,3,4,14,123,147] ?_));clear hK K;refine dI ?_ ?_<;>intro hb
        ·refine ab (ac ?_);refine bd [0,3,4,147] (by simp only [ae,pZ,simprocAttr]; exact rfl) ?_;refine ax (X:=List (List (Int × Int)) × List Int × Nat × Int) (fun x=>x.1.length ≤ 42 ∧ x.2.1.length = x.1.length ∧ (∀ a,dg x.1 a ≤ 500) ∧ x.2.2.1 + 2 * (42 - x.1.length) ≤ B + 100) (fun x=>[]) (fun x=>[((3,0),⟨some 31,[.sl true 95 1 (x.1.map (esC 97)),.sl true 3 1 (N.ids.map iC),.sl true 3 1 (x.2.1.map iC)]⟩),((147,0),⟨some 69,[.sl false 5 1 (bs.map bC),.p (.int .i64 x.2.2.1),.p (.int .u64 x.2.2.2)]⟩)]) (fun x=>42 - x.1.length) (N.ends,N.inputs,p2,s2) ⟨by dsimp only; omega,d6,d4,by dsimp only; omega⟩ (by first | rfl | (simp only [ae,pZ,simprocAttr,Int.natCast_zero] <;> rfl)) ?_;rintro ⟨E,I,q,u⟩ ⟨hE,hI,hdE,hq⟩;intro E hE;simp only [ae,pZ,simprocAttr] at hE;subst hE;dsimp only at hE hI hdE hq ⊢;refine ab ?_;have dX:=And.intro dX (@neBendSt23.eq_def);refine ab (cm neBendSt23 (fun j r=>match j with | 4=>CurO bs (q + 2) (fun rs=>∃ x,rs = [.c (.p (.int .i64 x))] ∧ n5 2 x) r | _=>True) fun K hK=>?_);(repeat refine dV ?_);have dX:=And.intro dX (@neBendSt23.eq_def);refine rx rfl ⟨rfl,_,rfl⟩ (by omega) (by first | exact fg) (ew bs q u 2 q hby (Nat.le_refl _) (by omega)) (CurO.ex ⟨_,0,rfl,tn _⟩) ?_;rintro _ ⟨q6,u6,_,rfl,hq6,x6,rfl,hx6⟩;refine po ?_;(repeat refine dV ?_);have hx61:=hx6.1;have hx62:=hx6.2.1;have hx63:=hx6.2.2;have dX:=And.intro dX (@neBendSt23.eq_def);(repeat refine dV ?_);refine ak (hK _ (wK [0,3,4,131,147] ?_));clear hK K;refine dI ?_ ?_<;>intro hb
         ·have hE7:E.length < 42:=by rw [show IntKind.i64.wrap (40 + x6) = 40 + x6 from IntWalk.i64_in _ (by omega)] at hb; simp at hb; omega
          refine af ?_;show DW _ _ _ _ _;refine ac ?_;refine ab (dR fun K hK=>?_);(repeat refine eV ?_);refine aa (hK _ (wK [0,3,4,147] ?_));clear hK K;refine su 3 [(0,0),(E.length,0)] 97 2 (by decide) (by simp only [ae,pZ,simprocAttr]; exact rfl) yr [0,3,4,147] (by simp only [ae,pZ,simprocAttr,je,List.modify_cons,List.modifyHead,sf]; exact rfl) ?_;refine dR fun K hK=>?_;(repeat refine eV ?_);have dK:=And.intro @il @sf;refine aa (hK _ ?_);clear hK K;show ∃ x,_ ∧ _ ∧ Weak _ _;refine ⟨(E ++ [[]],I ++ [0],q6,u6),?_,?_,ay [0,3,4,147]⟩
          ·exact ⟨by simp; omega,by simp [hI],fun a=>by rw [Xs]; exact hdE a,by simp; omega⟩
          ·simp; omega
         ·refine an ?_;refine bd [0,3,4,147] (by simp only [ae,pZ,simprocAttr]; exact rfl) ?_;refine dR fun K hK=>?_;(repeat refine eV ?_);refine aa (hK _ (wK [3,4,147] ?_));clear hK K;refine az 3 1 3 1 (by decide) (by simp only [ae,pZ,simprocAttr]; exact rfl) rfl [3,4,147] (by simp only [ae,pZ,simprocAttr]; exact rfl) ?_;refine ab (dR fun K hK=>?_);(repeat refine eV ?_);refine aa (hK _ (wK [4,147] ?_));clear hK K;exact ai (b6 Tryz.results91 Tryz.ntmps91 (.one (.re _ _ (.cell 4 _ _ _ _ rfl rfl aq rfl rfl (ao ⟨E,[],I⟩)))) (by decide) (by decide) rfl rfl rfl ⟨q6,u6,_,rfl,by omega,⟨E,[],I⟩,rfl,⟨by dsimp only; omega,fun a=>Nat.le_trans (hdE a) (by omega),by simp,by dsimp only; omega⟩⟩)
        ·refine ab (dR fun K hK=>?_);(repeat refine eV ?_);refine aa (hK _ (wK [3,4,143,147] ?_));clear hK K;refine dI ?_ ?_<;>intro hb
         ·refine ab (dR fun K hK=>?_);(repeat refine eV ?_);refine aa (hK _ (wK [4,147] ?_));clear hK K;refine az 4 0 95 1 (by decide) (by simp only [ae,pZ,simprocAttr]; exact rfl) rfl [4,147] (by simp only [ae,pZ,simprocAttr]; exact rfl) ?_;refine az 4 1 3 1 (by decide) (by simp only [ae,pZ,simprocAttr]; exact rfl) rfl [4,147] (by simp only [ae,pZ,simprocAttr]; exact rfl) ?_;refine az 4 2 3 1 (by decide) (by simp only [ae,pZ,simprocAttr]; exact rfl) rfl [4,147] (by simp only [ae,pZ,simprocAttr]; exact rfl) ?_;exact ai (b6 Tryz.results91 Tryz.ntmps91 (.one (.re _ _ (.cell 4 _ _ _ _ rfl rfl aq rfl rfl (ao ⟨[],[],[]⟩)))) (by decide) (by decide) rfl rfl rfl ⟨p2,s2,_,rfl,by omega,⟨[],[],[]⟩,rfl,⟨by simp,fun a=>by simp [dg,gl],by simp,by simp⟩⟩)
         ·refine af ?_;show DW _ _ _ _ _;refine ab (dR fun K hK=>?_);(repeat refine eV ?_);refine aa (hK _ (wK [4,147] ?_));clear hK K;exact ai (b6 Tryz.results91 Tryz.ntmps91 (.one (.re _ _ (.cell 4 _ _ _ _ rfl rfl aq rfl rfl (ao N)))) (by decide) (by decide) rfl rfl rfl ⟨p2,s2,_,rfl,by omega,N,rfl,hT⟩)
end
section
open Go Go.RowKit
def mixedSt5:Nat → Stat
 | 0=>⟨[3],[(3,1)],[],[15],[],[]⟩
 | 1=>⟨[5],[],[],[16],[],[]⟩
 | 2=>⟨[0],[],[],[17],[],[]⟩
 | 3=>⟨[3],[(3,1)],[],[18],[],[]⟩
 | 4=>⟨[18],[(3,1)],[],[19],[],[]⟩
 | 5=>⟨[5],[],[],[20],[],[]⟩
 | 6=>⟨[19,20],[(3,1)],[],[21],[],[]⟩
 | 7=>⟨[21],[(3,2)],[],[22],[],[]⟩
 | 8=>⟨[22],[(3,2)],[],[23],[],[]⟩
 | 9=>⟨[17,23],[],[43],[24],[(43,1)],[]⟩
 | 10=>⟨[15,16,24],[],[3,24],[25],[],[]⟩
 | 11=>⟨[3,25],[(3,1)],[25],[],[(3,1),(25,1)],[]⟩
 | _=>⟨[],[],[],[],[],[]⟩
def mixedSt11:Nat → Stat
 | 0=>⟨[3],[(3,1)],[],[35],[],[]⟩
 | 1=>⟨[35],[(3,1)],[],[36],[],[]⟩
 | 2=>⟨[6],[],[],[37],[],[]⟩
 | 3=>⟨[0],[],[],[38],[],[]⟩
 | 4=>⟨[38],[],[43],[39],[(43,1)],[]⟩
 | 5=>⟨[36,37],[(3,1)],[],[40],[],[]⟩
 | 6=>⟨[40,39],[(3,2)],[],[],[(3,2)],[]⟩
 | _=>⟨[],[],[],[],[],[]⟩
def zBDmx1:=PLift.up (And.intro aq (And.intro bn (And.intro b7 (And.intro @if_pos.{1} (And.intro cd (And.intro @cf (And.intro bb (And.intro ch (And.intro @netO.eq_1 @trivial)))))))))
theorem jav:type_of% zBDmx1.down:=zBDmx1.down
set_option maxRecDepth 8000 in
set_option maxHeartbeats 0 in
theorem Au (bs:List Int) (p:Nat) (s:Int) (N:Net) (B:Nat) (hby:dp bs) (hp:p ≤ B) (hB:B + 1073741824 ≤ 4611686018427387900) (hlN:N.ends.length ≤ 1000) (hdN:∀ v,v < N.ends.length → (gl N.ends v).length ≤ 1000) (hid:N.ids.length ≤ 1000) (hin:N.inputs.length ≤ 1000) (hsym:Sym N.ends) :
 tc Tryz.prog 145 69 (curC bs p s) true (netO N) [] (CurO bs (B + 1073741824) fun rs=>∃ M,rs = [.own true (netO M)] ∧ Alike N M):=by
 refine Lw Tryz.func145 rfl (by rw [Tryz.ntmps145]; simp) fun w0=>?_;rw [Tryz.ntmps145];have dX:=jav;simp only [uy,bf,Arg.av,curC,netO,List.length_cons,List.length_nil,Nat.reduceAdd];refine ab (dR fun K hK=>?_);(repeat refine eV ?_);refine aa (hK _ (wK [0,3,4,43] ?_));clear hK K;refine ab ?_;refine ab (dR fun K hK=>?_);(repeat refine eV ?_);refine aa (hK _ (wK [0,3,4,9,10,43] ?_));clear hK K;refine ac ?_;refine ax (X:=Net × Nat × Nat × Int) (fun x=>x.2.1 ≤ N.ends.length ∧ Alike N x.1 ∧ x.2.2.1 ≤ B + 2002 * x.2.1) (fun x=>[(10,.c (.p (.int .i64 x.2.1)))]) (fun x=>[((3,0),⟨some 31,[.sl true 95 1 (x.1.ends.map (esC 97)),.sl true 3 1 (x.1.ids.map iC),.sl true 3 1 (x.1.inputs.map iC)]⟩),((43,0),⟨some 69,[.sl false 5 1 (bs.map bC),.p (.int .i64 x.2.2.1),.p (.int .u64 x.2.2.2)]⟩)]) (fun x=>N.ends.length - x.2.1) (N,0,p,s) ⟨Nat.zero_le _,⟨rfl,fun _=>rfl,hsym,rfl,rfl⟩,hp⟩ (by first | rfl | (simp only [ae,pZ,simprocAttr,Int.natCast_zero] <;> rfl)) ?_;rintro ⟨M,k,q,u⟩ ⟨hk,hal,hq⟩;intro E hE;simp only [ae,pZ,simprocAttr] at hE;subst hE;dsimp only at hk hal hq ⊢;obtain ⟨hal1,hal2,hal3,hal4,hal5⟩:=id hal;refine ab (dR fun K hK=>?_);(repeat refine eV ?_);refine aa (hK _ (wK [0,3,4,9,10,11,43] ?_));clear hK K;refine ab (dI (fun hb=>?_) (fun hb=>?_))
 ·have hk1:k < N.ends.length:=by simpa using hb
  have hdk:(gl M.ends k).length ≤ 1000:=by have:=hdN k hk1; have h2:=hal2 k; unfold dg at h2; omega
  have hsm:er M:=hal.small ⟨by omega,fun i hi=>by have:=hdN i hi; omega,by omega,by omega⟩;refine af ?_;show DW _ _ _ _ _;refine ab (ac ?_);refine ab (dR fun K hK=>?_);(repeat refine eV ?_);refine aa (hK _ (wK [0,3,4,5,9,10,43] ?_));clear hK K;refine ab (dR fun K hK=>?_);(repeat refine eV ?_);refine kg rfl ⟨rfl,_,rfl⟩ (by omega) (by first | exact tr) (tq bs q u 2 (B + 2002 * k) hby hq (by omega)) ?_;rintro _ ⟨q1,u1,_,rfl,hq1,b1,rfl⟩;refine ioF ?_;(repeat refine eV ?_);refine aa (hK _ (wK [0,3,4,5,9,10,14,43] ?_));clear hK K;refine dI ?_ ?_<;>intro hb
  ·have dX:=And.intro dX (And.intro @mixedSt5.eq_def @ef);refine cm mixedSt5 (fun j r=>match j with | 9=>CurO bs (B + 2002 * k + 2 + 2 * (gl M.ends k).length) (fun rs=>∃ xs:List Int,rs = [.own false [.sl true 3 1 (xs.map iC)]] ∧ xs.Perm (cp (gl M.ends k).length)) r | 10=>∃ M',r = [.own true (netO M')] ∧ Alike N M' | _=>True) fun K hK=>?_;(repeat refine dV ?_);have dX:=And.intro dX (And.intro @mixedSt5.eq_def @ef);refine rx rfl ⟨rfl,_,rfl⟩ (by omega) (by first | exact Ey | exact Tp) (B5 bs q1 u1 (gl M.ends k).length (B + 2002 * k + 2) hby hq1 (by omega) (by omega)) (CurO.ex ⟨_,cp (gl M.ends k).length,rfl,List.Perm.refl _⟩) ?_;rintro _ ⟨q2,u2,_,rfl,hq2,π,rfl,hπ⟩;refine po ?_;(repeat refine dV ?_);have dX:=And.intro dX (And.intro @mixedSt5.eq_def @ef);refine dxF rfl ⟨rfl,_,rfl⟩ (by omega) (by first | exact Ey | exact Tp) ((Qb true 3 M k π hsm (by omega) hal3 hπ).mono (fun r hr=>⟨_,hr,hal.ports hπ⟩)) rfl (⟨_,M,rfl,hal⟩) ?_;rintro _ ⟨M2,rfl,hal'⟩;(repeat refine dV ?_);refine ak (hK _ (wK [0,3,4,9,10,43] ?_));clear hK K;refine dR fun K hK=>?_;(repeat refine eV ?_);have dK:=@bj;refine aa (hK _ ?_);clear hK K;show ∃ x,_ ∧ _ ∧ Weak _ _;refine ⟨(M2,k + 1,q2,u2),?_,?_,ay [0,3,4,9,10,43]⟩
   ·exact ⟨by dsimp only; omega,hal',by dsimp only; omega⟩
   ·dsimp only; omega
  ·refine af ?_;show DW _ _ _ _ _;refine dR fun K hK=>?_;(repeat refine eV ?_);have dK:=@bj;refine aa (hK _ ?_);clear hK K;show ∃ x,_ ∧ _ ∧ Weak _ _;refine ⟨(M,k + 1,q1,u1),?_,?_,ay [0,3,4,9,10,43]⟩
   ·exact ⟨by dsimp only; omega,hal,by dsimp only; omega⟩
   ·dsimp only; omega
 ·refine an ?_;refine bd [0,3,4,43] (by simp only [ae,pZ,simprocAttr]; exact rfl) ?_;refine ab ?_;refine ab (dR fun K hK=>?_);(repeat refine eV ?_);refine kg rfl ⟨rfl,_,rfl⟩ (by omega) (by first | exact tr) (tq bs q u 3 (B + 2002 * k) hby hq (by omega)) ?_;rintro _ ⟨q1,u1,_,rfl,hq1,b1,rfl⟩;refine ioF ?_;(repeat refine eV ?_);refine aa (hK _ (wK [0,3,4,28,43] ?_));clear hK K;refine dI ?_ ?_<;>intro hb
  ·refine ab (dR fun K hK=>?_);(repeat refine eV ?_);refine aa (hK _ (wK [0,3,4,31,32,43] ?_));clear hK K;refine ac ?_;refine ax (X:=List Int × Nat × Nat × Int) (fun x=>x.2.1 ≤ M.inputs.length ∧ x.1.length = M.inputs.length ∧ x.2.2.1 ≤ B + 2002 * k + 2 + 2 * x.2.1) (fun x=>[(32,.c (.p (.int .i64 x.2.1)))]) (fun x=>[((3,0),⟨some 31,[.sl true 95 1 (M.ends.map (esC 97)),.sl true 3 1 (M.ids.map iC),.sl true 3 1 (x.1.map iC)]⟩),((43,0),⟨some 69,[.sl false 5 1 (bs.map bC),.p (.int .i64 x.2.2.1),.p (.int .u64 x.2.2.2)]⟩)]) (fun x=>M.inputs.length - x.2.1) (M.inputs,0,q1,u1) ⟨Nat.zero_le _,rfl,hq1⟩ (by first | rfl | (simp only [ae,pZ,simprocAttr,Int.natCast_zero] <;> rfl)) ?_;rintro ⟨L,j,q2,u2⟩ ⟨hj,hL,hq2⟩;intro E hE;simp only [ae,pZ,simprocAttr] at hE;subst hE;dsimp only at hj hL hq2 ⊢;refine ab (dR fun K hK=>?_);(repeat refine eV ?_);refine aa (hK _ (wK [0,3,4,31,32,33,43] ?_));clear hK K;refine ab (dI (fun hb=>?_) (fun hb=>?_))
   ·have hj1:j < M.inputs.length:=by simpa using hb
    refine af ?_;show DW _ _ _ _ _;refine ab (ac ?_);refine ab (dR fun K hK=>?_);(repeat refine eV ?_);refine aa (hK _ (wK [0,3,4,6,31,32,43] ?_));clear hK K;have dX:=And.intro dX (@mixedSt11.eq_def);refine cm mixedSt11 (fun j' r=>match j' with | 4=>CurO bs (B + 2002 * k + 2 + 2 * j + 2) (fun rs=>∃ x,rs = [.c (.p (.int .i64 x))] ∧ n5 3 x) r | _=>True) fun K hK=>?_;(repeat refine dV ?_);have dX:=And.intro dX (@mixedSt11.eq_def);refine rx rfl ⟨rfl,_,rfl⟩ (by omega) (by first | exact fg) (ew bs q2 u2 3 (B + 2002 * k + 2 + 2 * j) hby hq2 (by omega)) (CurO.ex ⟨_,0,rfl,tn _⟩) ?_;rintro _ ⟨q3,u3,_,rfl,hq3,x3,rfl,hx3⟩;refine po ?_;(repeat refine dV ?_);have dK:=@lv;refine ak (hK _ (au [0,3,4,31,32,43] ?_));clear hK K;refine dR fun K hK=>?_;(repeat refine eV ?_);have dK:=@bj;refine aa (hK _ ?_);clear hK K;show ∃ x,_ ∧ _ ∧ Weak _ _;refine ⟨(L.set j x3,j + 1,q3,u3),?_,?_,ay [0,3,4,31,32,43]⟩
    ·exact ⟨by dsimp only; omega,by dsimp only; rw [List.length_set,hL],by dsimp only; omega⟩
    ·dsimp only; omega
   ·refine an ?_;refine bd [0,3,4,43] (by simp only [ae,pZ,simprocAttr]; exact rfl) ?_;refine ab (dR fun K hK=>?_);(repeat refine eV ?_);refine aa (hK _ (wK [4,43] ?_));clear hK K;exact ai (b6 Tryz.results145 Tryz.ntmps145 (.one (.re _ _ (.cell 4 _ _ _ _ rfl rfl aq rfl rfl (ao ⟨M.ends,M.ids,L⟩)))) (by decide) (by decide) rfl rfl rfl ⟨q2,u2,_,rfl,by omega,⟨M.ends,M.ids,L⟩,rfl,⟨hal1,hal2,hal3,hal4,hL.trans hal5⟩⟩)
  ·refine af ?_;show DW _ _ _ _ _;refine ab (dR fun K hK=>?_);(repeat refine eV ?_);refine aa (hK _ (wK [4,43] ?_));clear hK K;exact ai (b6 Tryz.results145 Tryz.ntmps145 (.one (.re _ _ (.cell 4 _ _ _ _ rfl rfl aq rfl rfl (ao ⟨_,_,_⟩)))) (by decide) (by decide) rfl rfl rfl ⟨q1,u1,_,rfl,by omega,M,rfl,hal⟩)
end
section
open Go Go.RowKit
def HopeD (L p:Nat) (s:Int) (t k:Nat):Prop:=(p < L ∧ (L - p) + 281474976710658 ≤ k) ∨ (L ≤ p ∧ ∃ n:Nat,n + 1 ≤ k ∧ itS (n + 1) s / 1099511627776 % 256 = t)
theorem HopeD.start (L p:Nat) (s:Int) (t:Nat) (ht:t < 256) (hL:L ≤ 1048576):HopeD L p s t 281474977759234:=by
 by_cases h:p < L
 ·exact .inl ⟨h,by omega⟩
 ·obtain ⟨n,hn,e⟩:=C9 s t ht;exact .inr ⟨by omega,n,by omega,e⟩
theorem HopeD.next {L p:Nat} {s s' x:Int} {t v k:Nat} (h:HopeD L p s t k) (ht:t < v) (hv:v ≤ 200) (hd:L ≤ p → s' = lcg s 0 ∧ x = s' / 1099511627776 % 256 % (v:Int)) :
 ∃ k',k' < k ∧ (x = (t:Int) ∨ HopeD L (p + 1) s' t k'):=by
 rcases h with ⟨h1,h2⟩ | ⟨h1,n,h2,h3⟩
 ·refine ⟨k - 1,by omega,.inr ?_⟩
  by_cases h:p + 1 < L
  ·exact .inl ⟨h,by omega⟩
  ·obtain ⟨n,hn,e⟩:=C9 s' t (by omega);exact .inr ⟨by omega,n,by omega,e⟩
 ·obtain ⟨e1,e2⟩:=hd h1
  rcases n with _ | n
  ·refine ⟨k - 1,by omega,.inl ?_⟩;have e3:itS (0 + 1) s = lcg s 0:=rfl;rw [e3,← e1] at h3;rw [e2,h3,Int.emod_eq_of_lt (by omega) (by omega)]
  ·refine ⟨k - 1,by omega,.inr (.inr ⟨by omega,n,by omega,?_⟩)⟩;rw [e1]
   have:itS (n + 1 + 1) s = itS (n + 1) (lcg s 0):=by
    rw [Ax (n + 1) 1 s]; rfl
   rw [← this]; exact h3
def zBDtr1:=PLift.up (And.intro aq (And.intro @cf (And.intro bn (And.intro b7 (And.intro @if_pos.{1} (And.intro cd (And.intro @netO.eq_1 @trivial)))))))
theorem jan:type_of% zBDtr1.down:=zBDtr1.down
set_option maxRecDepth 8000 in
set_option maxHeartbeats 0 in
theorem Sc (bs:List Int) (p:Nat) (s:Int) (m:Nat) (z:Int) (B:Nat) (hz:z = m) (hby:dp bs) (hp:p ≤ B) (hB:B + 72057594037927936 ≤ 4611686018427387900) (hm1:1 ≤ m) (hm2:m ≤ 40):dr Tryz.prog 142 [.io 69 (curC bs p s),.c (.p (.int .i64 z))] (CurO bs (B + 72057594037927936) fun rs=>∃ N,rs = [.own true (netO N)] ∧ Drawn m 80 N):=by
 subst hz;have hL:=hby.1;refine fz Tryz.func142 rfl (by rw [Tryz.ntmps142]; simp) fun w0=>?_;rw [Tryz.ntmps142];have dX:=jan;simp only [jt,bf,Arg.av,curC];refine ab (dR fun K hK=>?_);(repeat refine eV ?_);refine aa (hK _ (wK [0,1,4,40] ?_));clear hK K;refine ab (dR fun K hK=>?_);(repeat refine eV ?_);refine kg rfl ⟨rfl,_,rfl⟩ (by omega) (by first | exact fg | exact nj) (ew bs p s m _ hby hp (by omega)) ?_;rintro _ ⟨p1,s1,_,rfl,hp1,y,rfl,hy⟩;refine ioF ?_;(repeat refine eV ?_);obtain ⟨n,hyn,hn1,hn2⟩:∃ n:Nat,(1:Int) + y = n ∧ 1 ≤ n ∧ n ≤ m:=⟨(1 + y).toNat,by have:=hy.1; omega,by have:=hy.1; omega,by have:=hy.2.2; omega⟩;have hy1:=hy.1;have hy2:=hy.2.1;rw [hyn];refine cL rfl ⟨rfl,_,rfl⟩ (by omega) (by first | exact fg | exact nj) (js n (by omega)) ?_;rintro _ rfl;(repeat refine eV ?_);refine aa (hK _ (wK [0,4,5,40] ?_));clear hK K;have hel:(dn n).ends.length = n:=by simp [dn]
 refine ab ?_;refine ab (dR fun K hK=>?_);(repeat refine eV ?_);refine aa (hK _ (wK [0,4,5,6,40] ?_));clear hK K;refine ac ?_;refine ax (X:=Net × Nat × Nat × Int) (fun x=>1 ≤ x.2.1 ∧ x.2.1 ≤ n ∧ x.1.ends.length = n ∧ Grow m x.2.1 x.1 ∧ x.2.2.1 ≤ B + 2 + x.2.1 * 562949953421312) (fun x=>[(6,.c (.p (.int .i64 x.2.1)))]) (fun x=>[((5,0),⟨some 31,[.sl true 95 1 (x.1.ends.map (esC 97)),.sl true 3 1 (x.1.ids.map iC),.sl true 3 1 (x.1.inputs.map iC)]⟩),((40,0),⟨some 69,[.sl false 5 1 (bs.map bC),.p (.int .i64 x.2.2.1),.p (.int .u64 x.2.2.2)]⟩)]) (fun x=>n - x.2.1) (dn n,1,p1,s1) ⟨Nat.le_refl _,hn1,hel,Grow.start hn1 hn2,by dsimp only; omega⟩ (by first | rfl | (simp only [ae,pZ,simprocAttr,Int.natCast_zero] <;> rfl)) ?_;rintro ⟨N,v,q,u⟩ ⟨hv1,hv2,hN,hG,hq⟩;intro E hE;simp only [ae,pZ,simprocAttr] at hE;subst hE;dsimp only at hv1 hv2 hN hG hq ⊢;have hsm:er N:=hG.d.small (by omega) (by omega);refine ab ?_;refine ab (dR fun K hK=>?_);(repeat refine eV ?_);refine aa (hK _ (wK [0,4,5,6,17,40] ?_));clear hK K;refine dI ?_ ?_<;>intro hb
 ·have hvn:v < n:=by simp at hb; omega
  have hvN:v < N.ends.length:=by omega
  refine af ?_;show DW _ _ _ _ _;refine ab (ac ?_);refine ab (dR fun K hK=>?_);(repeat refine eV ?_);refine kg rfl ⟨rfl,_,rfl⟩ (by omega) (by first | exact fg) (ew bs q u v (B + 2 + v * 562949953421312) hby hq (by omega)) ?_;rintro _ ⟨q2,u2,_,rfl,hq2,y2,rfl,hy2⟩;refine ioF ?_;(repeat refine eV ?_);obtain ⟨x2,rfl⟩:∃ x2:Nat,y2 = x2:=⟨y2.toNat,by have:=hy2.1; omega⟩;have hx2:x2 < v:=by have:=hy2.2.2; omega
  refine aa (hK _ (wK [0,4,5,6,7,40] ?_));clear hK K;refine ab (ac ?_);refine ax (X:=Nat × Nat × Int × Nat) (fun x=>x.1 < v ∧ x.2.1 + x.2.2.2 ≤ B + 2 + v * 562949953421312 + 2 + 281474977759234 ∧ (x.1 = v - 1 ∨ HopeD bs.length x.2.1 x.2.2.1 (v - 1) x.2.2.2)) (fun x=>[(7,.c (.p (.int .i64 x.1)))]) (fun x=>[((40,0),⟨some 69,[.sl false 5 1 (bs.map bC),.p (.int .i64 x.2.1),.p (.int .u64 x.2.2.1)]⟩)]) (fun x=>x.2.2.2) (x2,q2,u2,281474977759234) ⟨hx2,by dsimp only; omega,.inr (HopeD.start _ _ _ _ (by omega) hL)⟩ (by first | rfl | (simp only [ae,pZ,simprocAttr,Int.natCast_zero] <;> rfl)) ?_;rintro ⟨x,q3,u3,k⟩ ⟨hx,hq3,hhope⟩;intro E hE;simp only [ae,pZ,simprocAttr] at hE;subst hE;dsimp only at hx hq3 hhope ⊢;have hxN:x < N.ends.length:=by omega
  refine ab ?_;have dX:=And.intro dX (@ef);refine ab (dR fun K hK=>?_);(repeat refine eV ?_);refine aa (hK _ (wK [0,4,5,6,7,29,40] ?_));clear hK K;refine dI ?_ ?_<;>intro hb
  ·have hd4:4 ≤ (gl N.ends x).length:=by simp at hb; omega
   have hxv:x ≠ v - 1:=fun h=>by have:=hG.last; rw [← h] at this; unfold dg at this; omega
   have hop:=hhope.resolve_left hxv;refine af ?_;show DW _ _ _ _ _;refine ac ?_;refine dR fun K hK=>?_;(repeat refine eV ?_);refine kg rfl ⟨rfl,_,rfl⟩ (by omega) (by first | exact fg) (Zm bs q3 u3 v hby (by omega) (by omega) (by omega)) ?_;rintro _ ⟨y4,u4,rfl,hy40,hy41,hdet⟩;refine ioF ?_;(repeat refine eV ?_);obtain ⟨k',hk',hho'⟩:=hop.next (s':=u4) (x:=y4) (by omega:v - 1 < v) (by omega) hdet;obtain ⟨x4,rfl⟩:∃ x4:Nat,y4 = x4:=⟨y4.toNat,by omega⟩;have dK:=@bj;refine aa (hK _ ?_);clear hK K;show ∃ x,_ ∧ _ ∧ Weak _ _;refine ⟨(x4,q3 + 1,u4,k'),?_,?_,ay [0,4,5,6,7,40]⟩
   ·exact ⟨by dsimp only; omega,by dsimp only; omega,hho'.imp (fun h=>by dsimp only; omega) id⟩
   ·exact hk'
  ·refine an ?_;refine bd [0,4,5,6,7,40] (by simp only [ae,pZ,simprocAttr]; exact rfl) ?_;refine dR fun K hK=>?_;(repeat refine eV ?_);refine cL rfl ⟨rfl,_,rfl⟩ (by omega) (by first | exact Gm) (ww N x v hsm hxN hvN) ?_;rintro _ rfl;(repeat refine eV ?_);refine aa (hK _ (wK [0,4,5,6,40] ?_));clear hK K;refine dR fun K hK=>?_;(repeat refine eV ?_);have dK:=@bj;refine aa (hK _ ?_);clear hK K;show ∃ x,_ ∧ _ ∧ Weak _ _;refine ⟨(od N x v,v + 1,q3,u3),?_,?_,ay [0,4,5,6,40]⟩
   ·exact ⟨by dsimp only; omega,by dsimp only; omega,(li _ _ _).trans hN,hG.next hvN hx,by dsimp only; omega⟩
   ·dsimp only; omega
 ·have hvn:v = n:=by simp at hb; omega
  have hD:Drawn m 80 N:=hG.d.mono (Nat.le_refl _) (by omega);have hdl:=hD.len;have hdi:=hD.ids;have hdn:=hD.ins;refine an ?_;refine bd [0,4,5,40] (by simp only [ae,pZ,simprocAttr]; exact rfl) ?_;refine ab (dR fun K hK=>?_);(repeat refine eV ?_);refine giF rfl ⟨rfl,_,rfl⟩ (by omega) (by first | exact Gk) (Au bs q u N (B + 2 + v * 562949953421312) hby hq (by omega) (by omega) (fun a _=>by have:=hD.deg a; unfold dg at this; omega) (by omega) (by omega) hD.sym) ?_;rintro _ ⟨q5,u5,_,rfl,hq5,M,rfl,hM⟩;refine Xc ?_;(repeat refine eV ?_);refine aa (hK _ (wK [4,40] ?_));clear hK K;exact ai (b6 Tryz.results142 Tryz.ntmps142 (.one (.re _ _ (.cell 4 _ _ _ _ rfl rfl aq rfl rfl (ao ⟨_,_,_⟩)))) (by decide) (by decide) rfl rfl rfl ⟨q5,u5,_,rfl,by omega,M,rfl,hD.alike hM⟩)
end
section
open Go Go.RowKit
def ringSt5:Nat → Stat
 | 0=>⟨[5],[(5,1)],[],[18],[],[]⟩
 | 1=>⟨[6],[],[],[19],[],[]⟩
 | 2=>⟨[6],[],[],[20],[],[]⟩
 | 3=>⟨[20],[],[],[21],[],[]⟩
 | 4=>⟨[5],[(5,1)],[],[22],[],[]⟩
 | 5=>⟨[22],[(5,1)],[],[23],[],[]⟩
 | 6=>⟨[23],[(5,1)],[],[24],[],[]⟩
 | 7=>⟨[21,24],[],[],[25],[],[]⟩
 | 8=>⟨[18,19,25],[],[5],[26],[],[]⟩
 | 9=>⟨[5,26],[(5,1)],[26],[],[(5,1),(26,1)],[]⟩
 | _=>⟨[],[],[],[],[],[]⟩
def zBDri1:=PLift.up (And.intro aq (And.intro @cf (And.intro bn (And.intro b7 (And.intro @if_pos.{1} (And.intro cd (And.intro @netO.eq_1 @trivial)))))))
theorem jaq:type_of% zBDri1.down:=zBDri1.down
set_option maxRecDepth 8000 in
set_option maxHeartbeats 0 in
theorem F6 (bs:List Int) (p:Nat) (s:Int) (m:Nat) (z:Int) (B:Nat) (hz:z = m) (hby:dp bs) (hp:p ≤ B) (hB:B + 72057594037927936 ≤ 4611686018427387900) (hm1:1 ≤ m) (hm2:m ≤ 40):dr Tryz.prog 118 [.io 69 (curC bs p s),.c (.p (.int .i64 z))] (CurO bs (B + 72057594037927936) fun rs=>∃ N,rs = [.own true (netO N)] ∧ Drawn m 80 N):=by
 subst hz;refine fz Tryz.func118 rfl (by rw [Tryz.ntmps118]; simp) fun w0=>?_;rw [Tryz.ntmps118];have dX:=jaq;simp only [jt,bf,Arg.av,curC];refine ab (dR fun K hK=>?_);(repeat refine eV ?_);refine aa (hK _ (wK [0,1,4,34] ?_));clear hK K;refine ab (dR fun K hK=>?_);(repeat refine eV ?_);refine kg rfl ⟨rfl,_,rfl⟩ (by omega) (by first | exact fg | exact nj) (ew bs p s m _ hby hp (by omega)) ?_;rintro _ ⟨p1,s1,_,rfl,hp1,y,rfl,hy⟩;refine ioF ?_;(repeat refine eV ?_);obtain ⟨n,hyn,hn1,hn2⟩:∃ n:Nat,(1:Int) + y = n ∧ 1 ≤ n ∧ n ≤ m:=⟨(1 + y).toNat,by have:=hy.1; omega,by have:=hy.1; omega,by have:=hy.2.2; omega⟩;rw [hyn];refine cL rfl ⟨rfl,_,rfl⟩ (by omega) (by first | exact fg | exact nj) (js n (by omega)) ?_;rintro _ rfl;(repeat refine eV ?_);have hel:(dn n).ends.length = n:=by simp [dn]
 refine aa (hK _ (wK [0,4,5,34] ?_));clear hK K;refine ab ?_;have dX:=And.intro dX (@hel);refine ab (dR fun K hK=>?_);(repeat refine eV ?_);refine aa (hK _ (wK [0,4,5,14,15,34] ?_));clear hK K;refine ac ?_;refine ax (X:=Net × Nat) (fun x=>x.2 ≤ n ∧ x.1.ends.length = n ∧ Drawn m (2 * x.2) x.1) (fun x=>[(15,.c (.p (.int .i64 x.2)))]) (fun x=>[((5,0),⟨some 31,[.sl true 95 1 (x.1.ends.map (esC 97)),.sl true 3 1 (x.1.ids.map iC),.sl true 3 1 (x.1.inputs.map iC)]⟩)]) (fun x=>n - x.2) (dn n,0) ⟨Nat.zero_le _,hel,Drawn.empty hn1 hn2⟩ (by first | rfl | (simp only [ae,pZ,simprocAttr,Int.natCast_zero] <;> rfl)) ?_;rintro ⟨N,v⟩ ⟨hv,hN,hD⟩;intro E hE;simp only [ae,pZ,simprocAttr] at hE;subst hE;dsimp only at hv hN hD ⊢;refine ab (dR fun K hK=>?_);(repeat refine eV ?_);refine aa (hK _ (wK [0,4,5,14,15,16,34] ?_));clear hK K;refine ab (dI (fun hb=>?_) (fun hb=>?_))
 ·have hvn:v < n:=by simpa using hb
  have hsm:er N:=hD.small (by omega) (by omega);have hmd:((v:Int) + 1).tmod (n:Int) = (((v + 1) % n:Nat):Int):=by rw [Int.tmod_eq_emod_of_nonneg (by omega)]; rfl
  have hml:(v + 1) % n < n:=Nat.mod_lt _ (by omega);have hn0:((n:Int) = 0) ↔ False:=⟨fun h=>by omega,False.elim⟩;refine af ?_;show DW _ _ _ _ _;refine ab (ac ?_);refine ab (dR fun K hK=>?_);(repeat refine eV ?_);refine aa (hK _ (wK [0,4,5,6,14,15,34] ?_));clear hK K;have dX:=And.intro dX (And.intro @ringSt5.eq_def (And.intro @hN (And.intro @hn0 @hmd)));refine cm ringSt5 (fun j r=>match j with | 8=>r = [.own true (netO (od N v ((v + 1) % n)))] | _=>True) fun K hK=>?_;(repeat refine dV ?_);have dX:=And.intro dX (And.intro @ringSt5.eq_def (And.intro @hN (And.intro @hn0 @hmd)));refine dcF rfl ⟨rfl,_,rfl⟩ (by omega) (by first | exact Gm) (ww N v ((v + 1) % n) hsm (by omega) (by omega)) ?_;rintro _ rfl;(repeat refine dV ?_);refine ak (hK _ (wK [0,4,5,14,15,34] ?_));clear hK K;refine dR fun K hK=>?_;(repeat refine eV ?_);have dK:=@bj;refine aa (hK _ ?_);clear hK K;show ∃ x,_ ∧ _ ∧ Weak _ _;refine ⟨(od N v ((v + 1) % n),v + 1),?_,?_,ay [0,4,5,14,15,34]⟩
  ·exact ⟨by dsimp only; omega,(li _ _ _).trans hN,(hD.join (by omega) (by omega)).mono (Nat.le_refl _) (by dsimp only; omega)⟩
  ·dsimp only; omega
 ·have hvn:v = n:=by simp at hb; omega
  have hD8:Drawn m 80 N:=hD.mono (Nat.le_refl _) (by omega);have hdl:=hD.len;have hdi:=hD.ids;have hdn:=hD.ins;refine an ?_;refine bd [0,4,5,34] (by simp only [ae,pZ,simprocAttr]; exact rfl) ?_;refine ab ?_;refine ab (dR fun K hK=>?_);(repeat refine eV ?_);refine kg rfl ⟨rfl,_,rfl⟩ (by omega) (by first | exact tr) (tq bs p1 s1 2 _ hby hp1 (by omega)) ?_;rintro _ ⟨p2,s2,_,rfl,hp2,b2,rfl⟩;refine ioF ?_;(repeat refine eV ?_);refine aa (hK _ (wK [0,4,5,29,34] ?_));clear hK K;refine dI ?_ ?_<;>intro hb
  ·refine ab (dR fun K hK=>?_);(repeat refine eV ?_);refine aa (hK _ (wK [4,34] ?_));clear hK K;exact ai (b6 Tryz.results118 Tryz.ntmps118 (.one (.re _ _ (.cell 4 _ _ _ _ rfl rfl aq rfl rfl (ao N)))) (by decide) (by decide) rfl rfl rfl ⟨p2,s2,_,rfl,by omega,N,rfl,hD8⟩)
  ·refine af ?_;show DW _ _ _ _ _;refine ab (dR fun K hK=>?_);(repeat refine eV ?_);refine giF rfl ⟨rfl,_,rfl⟩ (by omega) (by first | exact Gk) (Au bs p2 s2 N (B + 2 + 2) hby hp2 (by omega) (by omega) (fun a _=>by have:=hD8.deg a; unfold dg at this; omega) (by omega) (by omega) hD.sym) ?_;rintro _ ⟨p3,s3,_,rfl,hp3,M,rfl,hM⟩;refine Xc ?_;(repeat refine eV ?_);refine aa (hK _ (wK [4,34] ?_));clear hK K;exact ai (b6 Tryz.results118 Tryz.ntmps118 (.one (.re _ _ (.cell 4 _ _ _ _ rfl rfl aq rfl rfl (ao M)))) (by decide) (by decide) rfl rfl rfl ⟨p3,s3,_,rfl,by omega,M,rfl,hD8.alike hM⟩)
end
section
open Go Go.RowKit
theorem Oe (o:Bool) (t:TypeId) (xs:List Int) (n:Int):DCalls Tryz.prog 82 [.c (.sl o t 1 (xs.map iC)),.c (.p (.int .i64 n))] (fun r=>r = [.c (.p (.bool (nk xs n)))]):=ot fun w vs h1 h2=>by
 obtain ⟨u,v,rfl,g1,g2⟩:=O4 h1 h2;rw [J9 g2];exact (yt u xs n w (qd (o:=o) (t:=t) g1)).mono fun _ _ h=>RetQ.v h
def simpleSt5:Nat → Stat
 | 0=>⟨[0],[],[],[22],[],[]⟩
 | 1=>⟨[5],[(5,1)],[],[23],[],[]⟩
 | 2=>⟨[23],[(5,1)],[],[24],[],[]⟩
 | 3=>⟨[24],[(5,1)],[],[25],[],[]⟩
 | 4=>⟨[22,25],[],[68],[26],[(68,1)],[]⟩
 | 5=>⟨[0],[],[],[27],[],[]⟩
 | 6=>⟨[5],[(5,1)],[],[28],[],[]⟩
 | 7=>⟨[28],[(5,1)],[],[29],[],[]⟩
 | 8=>⟨[29],[(5,1)],[],[30],[],[]⟩
 | 9=>⟨[27,30],[],[68],[31],[(68,1)],[]⟩
 | 10=>⟨[26],[],[],[7],[],[]⟩
 | 11=>⟨[31],[],[],[8],[],[]⟩
 | _=>⟨[],[],[],[],[],[]⟩
def zBDsi1:=PLift.up (And.intro aq (And.intro @cf (And.intro bn (And.intro b7 (And.intro @if_pos.{1} (And.intro cd (And.intro @netO.eq_1 @trivial)))))))
theorem jap:type_of% zBDsi1.down:=zBDsi1.down
set_option maxRecDepth 8000 in
set_option maxHeartbeats 0 in
theorem Ic (bs:List Int) (p:Nat) (s:Int) (m:Nat) (z:Int) (B:Nat) (hz:z = m) (hby:dp bs) (hp:p ≤ B) (hB:B + 144115188075855872 ≤ 4611686018427387900) (hm1:1 ≤ m) (hm2:m ≤ 40):dr Tryz.prog 143 [.io 69 (curC bs p s),.c (.p (.int .i64 z))] (CurO bs (B + 144115188075855872) fun rs=>∃ N,rs = [.own true (netO N)] ∧ Drawn m 200 N):=by
 subst hz;refine fz Tryz.func143 rfl (by rw [Tryz.ntmps143]; simp) fun w0=>?_;rw [Tryz.ntmps143];have dX:=jap;simp only [jt,bf,Arg.av,curC];refine ab (dR fun K hK=>?_);(repeat refine eV ?_);refine aa (hK _ (wK [0,1,4,68] ?_));clear hK K;refine ab (dR fun K hK=>?_);(repeat refine eV ?_);refine qn rfl ⟨rfl,_,rfl⟩ (by omega) (by first | exact Tu) (Sc bs p s m _ B rfl hby hp (by omega) (by omega) (by omega)) ?_;rintro _ ⟨p1,s1,_,rfl,hp1,N1,rfl,hD1⟩;refine ioF ?_;(repeat refine eV ?_);refine aa (hK _ (wK [0,4,5,68] ?_));clear hK K;have hl1:=hD1.len;refine ab ?_;refine ab (dR fun K hK=>?_);(repeat refine eV ?_);refine kg rfl ⟨rfl,_,rfl⟩ (by omega) (by first | exact fg) (ew bs p1 s1 ((1:Int) + (N1.ends.length:Int)) _ hby hp1 (by omega)) ?_;rintro _ ⟨p2,s2,_,rfl,hp2,y,rfl,hy⟩;refine ioF ?_;(repeat refine eV ?_);obtain ⟨k0,rfl⟩:∃ k0:Nat,y = k0:=⟨y.toNat,by have:=hy.1; omega⟩;have hk0:k0 ≤ 40:=by have:=hy.2.2; omega
 refine aa (hK _ (wK [0,4,5,6,68] ?_));clear hK K;refine ac ?_;refine ax (X:=Net × Nat × Nat × Int) (fun x=>x.2.1 ≤ 40 ∧ Drawn m (80 + 2 * (40 - x.2.1)) x.1 ∧ x.2.2.1 ≤ B + 72057594037927936 + 2 + 4 * (40 - x.2.1)) (fun x=>[(6,.c (.p (.int .i64 x.2.1)))]) (fun x=>[((5,0),⟨some 31,[.sl true 95 1 (x.1.ends.map (esC 97)),.sl true 3 1 (x.1.ids.map iC),.sl true 3 1 (x.1.inputs.map iC)]⟩),((68,0),⟨some 69,[.sl false 5 1 (bs.map bC),.p (.int .i64 x.2.2.1),.p (.int .u64 x.2.2.2)]⟩)]) (fun x=>x.2.1) (N1,k0,p2,s2) ⟨hk0,hD1.mono (Nat.le_refl _) (by dsimp only; omega),by dsimp only; omega⟩ (by first | rfl | (simp only [ae,pZ,simprocAttr,Int.natCast_zero] <;> rfl)) ?_;rintro ⟨N,k,q,u⟩ ⟨hk,hD,hq⟩;intro E hE;simp only [ae,pZ,simprocAttr] at hE;subst hE;dsimp only at hk hD hq ⊢;have hsm:er N:=hD.small (by omega) (by omega);have hdl:=hD.len;have hdp:=hD.pos;have hdi:=hD.ids;have hdn:=hD.ins;refine ab ?_;refine ab (dR fun K hK=>?_);(repeat refine eV ?_);refine aa (hK _ (wK [0,4,5,6,19,68] ?_));clear hK K;refine dI ?_ ?_<;>intro hb
 ·obtain ⟨k,rfl⟩:∃ k',k = k' + 1:=⟨k - 1,by simp at hb; omega⟩;have hkc:(((k + 1:Nat):Int) - 1) = (k:Int):=by omega
  have hqn:q ≤ B + 72057594037927936 + 2 + 4 * (40 - (k + 1)):=hq;refine af ?_;show DW _ _ _ _ _;refine ab (ac ?_);have dX:=And.intro dX (@simpleSt5.eq_def);refine ab (cm simpleSt5 (fun j r=>match j with | 4=>CurO bs (B + 72057594037927936 + 2 + 4 * (40 - (k + 1)) + 2) (fun rs=>∃ x,rs = [.c (.p (.int .i64 x))] ∧ n5 (N.ends.length:Int) x) r | 9=>CurO bs (B + 72057594037927936 + 2 + 4 * (40 - (k + 1)) + 2 + 2) (fun rs=>∃ x,rs = [.c (.p (.int .i64 x))] ∧ n5 (N.ends.length:Int) x) r | _=>True) fun K hK=>?_);(repeat refine dV ?_);have dX:=And.intro dX (@simpleSt5.eq_def);refine rx rfl ⟨rfl,_,rfl⟩ (by omega) (by first | exact fg) (ew bs q u (N.ends.length:Int) (B + 72057594037927936 + 2 + 4 * (40 - (k + 1))) hby hqn (by omega)) (CurO.ex ⟨_,0,rfl,tn _⟩) ?_;rintro _ ⟨q3,u3,_,rfl,hq3,y3,rfl,hy3⟩;refine po ?_;(repeat refine dV ?_);have dX:=And.intro dX (@simpleSt5.eq_def);refine rx rfl ⟨rfl,_,rfl⟩ (by omega) (by first | exact fg) (ew bs q3 u3 (N.ends.length:Int) (B + 72057594037927936 + 2 + 4 * (40 - (k + 1)) + 2) hby hq3 (by omega)) (CurO.ex ⟨_,0,rfl,tn _⟩) ?_;rintro _ ⟨q4,u4,_,rfl,hq4,y4,rfl,hy4⟩;refine po ?_;(repeat refine dV ?_);obtain ⟨a,rfl⟩:∃ a:Nat,y3 = a:=⟨y3.toNat,by have:=hy3.1; omega⟩;obtain ⟨b,rfl⟩:∃ b:Nat,y4 = b:=⟨y4.toNat,by have:=hy4.1; omega⟩;have ha:a < N.ends.length:=by have:=hy3.2.2; omega
  have hbN:b < N.ends.length:=by have:=hy4.2.2; omega
  refine ak (hK _ (wK [0,4,5,6,7,8,68] ?_));clear hK K;refine ab (dR fun K hK=>?_);(repeat refine eV ?_);obtain h1 | h1:=Bool.eq_false_or_eq_true ((a:Int) != (b:Int))
  ·have dX:=And.intro dX (@h1);(repeat refine eV ?_);have dX:=And.intro dX (@h1);refine cgF rfl rfl ⟨rfl,_,rfl⟩ (by omega) (by first | exact Tq | exact Tl) (Te N a ha (hsm.2.1 a ha)) ?_;rintro _ rfl;(repeat refine eV ?_);have dX:=And.intro dX (@h1);refine cgF rfl rfl ⟨rfl,_,rfl⟩ (by omega) (by first | exact Tq | exact Tl) (Oe true 3 (i5 N a (gl N.ends a).length) b) ?_;rintro _ rfl;(repeat refine eV ?_);obtain h2 | h2:=Bool.eq_false_or_eq_true (nk (i5 N a (gl N.ends a).length) b)
   ·have dX:=And.intro dX (And.intro @h1 @h2);(repeat refine eV ?_);refine aa (hK _ (wK [0,4,5,6,7,8,60,68] ?_));clear hK K;refine dI ?_ ?_<;>intro hb
    ·cases hb
    ·refine af ?_;show DW _ _ _ _ _;refine dR fun K hK=>?_;(repeat refine eV ?_);have dK:=@hkc;refine aa (hK _ ?_);clear hK K;show ∃ x,_ ∧ _ ∧ Weak _ _;refine ⟨(N,k,q4,u4),?_,?_,ay [0,4,5,6,68]⟩
     ·exact ⟨by dsimp only; omega,hD.mono (Nat.le_refl _) (by dsimp only; omega),by dsimp only; omega⟩
     ·dsimp only; omega
   ·have dX:=And.intro dX (And.intro @h1 (And.intro @h2 @ef));(repeat refine eV ?_);obtain h3 | h3:=Bool.eq_false_or_eq_true (decide (((gl N.ends a).length:Int) < 5))
    ·have dX:=And.intro dX (And.intro @h1 (And.intro @h2 (And.intro @h3 @ef)));(repeat refine eV ?_);refine aa (hK _ (wK [0,4,5,6,7,8,60,68] ?_));clear hK K;refine dI ?_ ?_<;>intro hb
     ·refine dR fun K hK=>?_;(repeat refine eV ?_);refine cL rfl ⟨rfl,_,rfl⟩ (by omega) (by first | exact Gm) (ww N a b hsm ha hbN) ?_;rintro _ rfl;(repeat refine eV ?_);refine aa (hK _ (wK [0,4,5,6,68] ?_));clear hK K;refine dR fun K hK=>?_;(repeat refine eV ?_);have dK:=@hkc;refine aa (hK _ ?_);clear hK K;show ∃ x,_ ∧ _ ∧ Weak _ _;refine ⟨(od N a b,k,q4,u4),?_,?_,ay [0,4,5,6,68]⟩
      ·exact ⟨by dsimp only; omega,(hD.join ha hbN).mono (Nat.le_refl _) (by dsimp only; omega),by dsimp only; omega⟩
      ·dsimp only; omega
     ·refine af ?_;show DW _ _ _ _ _;refine dR fun K hK=>?_;(repeat refine eV ?_);have dK:=@hkc;refine aa (hK _ ?_);clear hK K;show ∃ x,_ ∧ _ ∧ Weak _ _;refine ⟨(N,k,q4,u4),?_,?_,ay [0,4,5,6,68]⟩
      ·exact ⟨by dsimp only; omega,hD.mono (Nat.le_refl _) (by dsimp only; omega),by dsimp only; omega⟩
      ·dsimp only; omega
    ·have dX:=And.intro dX (And.intro @h1 (And.intro @h2 @h3));(repeat refine eV ?_);refine aa (hK _ (wK [0,4,5,6,7,8,60,68] ?_));clear hK K;refine dI ?_ ?_<;>intro hb
     ·cases hb
     ·refine af ?_;show DW _ _ _ _ _;refine dR fun K hK=>?_;(repeat refine eV ?_);have dK:=@hkc;refine aa (hK _ ?_);clear hK K;show ∃ x,_ ∧ _ ∧ Weak _ _;refine ⟨(N,k,q4,u4),?_,?_,ay [0,4,5,6,68]⟩
      ·exact ⟨by dsimp only; omega,hD.mono (Nat.le_refl _) (by dsimp only; omega),by dsimp only; omega⟩
      ·dsimp only; omega
  ·have dX:=And.intro dX (@h1);(repeat refine eV ?_);have dX:=And.intro dX (@h1);refine csF ?_;(repeat refine eV ?_);have dX:=And.intro dX (@h1);refine csF ?_;(repeat refine eV ?_);refine aa (hK _ (wK [0,4,5,6,7,8,60,68] ?_));clear hK K;refine dI ?_ ?_<;>intro hb
   ·cases hb
   ·refine af ?_;show DW _ _ _ _ _;refine dR fun K hK=>?_;(repeat refine eV ?_);have dK:=@hkc;refine aa (hK _ ?_);clear hK K;show ∃ x,_ ∧ _ ∧ Weak _ _;refine ⟨(N,k,q4,u4),?_,?_,ay [0,4,5,6,68]⟩
    ·exact ⟨by dsimp only; omega,hD.mono (Nat.le_refl _) (by dsimp only; omega),by dsimp only; omega⟩
    ·dsimp only; omega
 ·refine an ?_;refine bd [0,4,5,68] (by simp only [ae,pZ,simprocAttr]; exact rfl) ?_;refine ab (dR fun K hK=>?_);(repeat refine eV ?_);refine giF rfl ⟨rfl,_,rfl⟩ (by omega) (by first | exact Gk) (Au bs q u N (B + 72057594037927936 + 200) hby (by omega) (by omega) (by omega) (fun a _=>by have:=hD.deg a; unfold dg at this; omega) (by omega) (by omega) hD.sym) ?_;rintro _ ⟨q5,u5,_,rfl,hq5,M,rfl,hM⟩;refine Xc ?_;(repeat refine eV ?_);refine aa (hK _ (wK [4,68] ?_));clear hK K;exact ai (b6 Tryz.results143 Tryz.ntmps143 (.one (.re _ _ (.cell 4 _ _ _ _ rfl rfl aq rfl rfl (ao M)))) (by decide) (by decide) rfl rfl rfl ⟨q5,u5,_,rfl,by omega,M,rfl,(hD.mono (Nat.le_refl _) (by omega)).alike hM⟩)
end
section
open Go Go.RowKit
def netSt11:Nat → Stat
 | 0=>⟨[5],[(5,1)],[],[35],[],[]⟩
 | 1=>⟨[0],[],[],[36],[],[]⟩
 | 2=>⟨[1],[],[],[37],[],[]⟩
 | 3=>⟨[37],[],[],[38],[],[]⟩
 | 4=>⟨[38],[],[],[39],[],[]⟩
 | 5=>⟨[36,39],[],[95],[40],[(95,1)],[]⟩
 | 6=>⟨[35,40],[],[5,40],[41],[],[]⟩
 | 7=>⟨[4,41],[(4,1)],[41],[],[(4,1),(41,1)],[]⟩
 | _=>⟨[],[],[],[],[],[]⟩
def netSt16:Nat → Stat
 | 0=>⟨[0],[],[],[57],[],[]⟩
 | 1=>⟨[6],[(6,1)],[],[58],[],[]⟩
 | 2=>⟨[58],[(6,1)],[],[59],[],[]⟩
 | 3=>⟨[59],[(6,1)],[],[60],[],[]⟩
 | 4=>⟨[57,60],[],[95],[61],[(95,1)],[]⟩
 | 5=>⟨[0],[],[],[62],[],[]⟩
 | 6=>⟨[6],[(6,1)],[],[63],[],[]⟩
 | 7=>⟨[63],[(6,1)],[],[64],[],[]⟩
 | 8=>⟨[64],[(6,1)],[],[65],[],[]⟩
 | 9=>⟨[62,65],[],[95],[66],[(95,1)],[]⟩
 | 10=>⟨[61],[],[],[8],[],[]⟩
 | 11=>⟨[66],[],[],[9],[],[]⟩
 | _=>⟨[],[],[],[],[],[]⟩
def zBDne1:=PLift.up (And.intro aq (And.intro @cf (And.intro bn (And.intro b7 (And.intro @if_pos.{1} (And.intro cd (And.intro @netO.eq_1 @trivial)))))))
theorem jau:type_of% zBDne1.down:=zBDne1.down
set_option maxRecDepth 8000 in
set_option maxHeartbeats 0 in
theorem Nx (bs:List Int) (p:Nat) (s:Int) (m:Nat) (z:Int) (B:Nat) (hz:z = m) (hby:dp bs) (hp:p ≤ B) (hB:B + 576460752303423488 ≤ 4611686018427387900) (hm1:1 ≤ m) (hm2:m ≤ 38):dr Tryz.prog 116 [.io 69 (curC bs p s),.c (.p (.int .i64 z))] (CurO bs (B + 576460752303423488) fun rs=>∃ N,rs = [.own true (netO N)] ∧ Drawn (m + 2) 400 N):=by
 subst hz;have hmq:(m:Int).tdiv 2 + 1 = ((m / 2 + 1:Nat):Int):=by rw [Int.tdiv_eq_ediv_of_nonneg (by omega)]; omega
 refine fz Tryz.func116 rfl (by rw [Tryz.ntmps116]; simp) fun w0=>?_;rw [Tryz.ntmps116];have dX:=jau;simp only [jt,bf,Arg.av,curC];refine ab (dR fun K hK=>?_);(repeat refine eV ?_);refine aa (hK _ (wK [0,1,4,95] ?_));clear hK K;refine ab ?_;refine ab (dR fun K hK=>?_);(repeat refine eV ?_);refine kg rfl ⟨rfl,_,rfl⟩ (by omega) (by first | exact fg) (ew bs p s 6 _ hby hp (by omega)) ?_;rintro _ ⟨p1,s1,_,rfl,hp1,x1,rfl,hx1⟩;refine ioF ?_;(repeat refine eV ?_);refine aa (hK _ (wK [0,1,4,11,95] ?_));clear hK K;refine ac ?_;refine ab (dR fun K hK=>?_);(repeat refine eV ?_);refine aa (hK _ (wK [0,1,4,11,12,95] ?_));clear hK K;refine dI ?_ ?_<;>intro hb
 ·refine ab (dR fun K hK=>?_);(repeat refine eV ?_);refine qn rfl ⟨rfl,_,rfl⟩ (by omega) (by first | exact yo) (F6 bs p1 s1 m _ (B + 2) rfl hby hp1 (by omega) (by omega) (by omega)) ?_;rintro _ ⟨p2,s2,_,rfl,hp2,N2,rfl,ht2⟩;refine ioF ?_;(repeat refine eV ?_);refine aa (hK _ (wK [4,95] ?_));clear hK K;exact ai (b6 Tryz.results116 Tryz.ntmps116 (.one (.re _ _ (.cell 4 _ _ _ _ rfl rfl aq rfl rfl (ao N2)))) (by decide) (by decide) rfl rfl rfl ⟨p2,s2,_,rfl,by omega,N2,rfl,ht2.mono (by omega) (by omega)⟩)
 ·refine ab (dR fun K hK=>?_);(repeat refine eV ?_);refine aa (hK _ (wK [0,1,4,11,17,95] ?_));clear hK K;refine dI ?_ ?_<;>intro hb
  ·refine ab (dR fun K hK=>?_);(repeat refine eV ?_);refine qn rfl ⟨rfl,_,rfl⟩ (by omega) (by first | exact Tu) (Sc bs p1 s1 m _ (B + 2) rfl hby hp1 (by omega) (by omega) (by omega)) ?_;rintro _ ⟨p3,s3,_,rfl,hp3,N3,rfl,ht3⟩;refine ioF ?_;(repeat refine eV ?_);refine aa (hK _ (wK [4,95] ?_));clear hK K;exact ai (b6 Tryz.results116 Tryz.ntmps116 (.one (.re _ _ (.cell 4 _ _ _ _ rfl rfl aq rfl rfl (ao N3)))) (by decide) (by decide) rfl rfl rfl ⟨p3,s3,_,rfl,by omega,N3,rfl,ht3.mono (by omega) (by omega)⟩)
  ·refine pn (X:=Bool) (fun b=>True) (fun b=>mkE 95 [(0,.ptr 95 0 [(0,0)] 0),(1,.c (.p (.int .i64 m))),(4,.box),(11,.c (.p (.int .i64 x1))),(22,.c (.p (.bool b))),(95,.dead)] [((4,0),⟨some 31,[.p (.slice none 0 0),.p (.slice none 0 0),.p (.slice none 0 0)]⟩),((95,0),⟨some 69,[.sl false 5 1 (bs.map bC),.p (.int .i64 p1),.p (.int .u64 s1)]⟩)]) ?_ ?_
   ·refine ab (dR fun K hK=>?_);(repeat refine eV ?_);refine aa (hK _ (wK [0,1,4,11,22,95] ?_));clear hK K;refine dI ?_ ?_<;>intro hb
    ·refine af ?_;show ∃ x,_ ∧ Weak _ _;refine ⟨(x1 == (2:Int)),?_,(ce _ [0,1,4,11,22,95]).trans (Weak.of_eq (by simp only [ae,pZ,simprocAttr] <;> exact rfl))⟩;trivial
    ·refine dR fun K hK=>?_;(repeat refine eV ?_);refine aa (hK _ ?_);clear hK K;show ∃ x,_ ∧ Weak _ _;refine ⟨(x1 == (3:Int)),?_,(ce _ [0,1,4,11,22,95]).trans (Weak.of_eq (by simp only [ae,pZ,simprocAttr] <;> exact rfl))⟩;trivial
   ·rintro b -;refine dI ?_ ?_<;>intro hb
    ·refine ab (dR fun K hK=>?_);(repeat refine eV ?_);refine qn rfl ⟨rfl,_,rfl⟩ (by omega) (by first | exact Tt) (Ic bs p1 s1 m _ (B + 2) rfl hby hp1 (by omega) (by omega) (by omega)) ?_;rintro _ ⟨p5,s5,_,rfl,hp5,N5,rfl,ht5⟩;refine ioF ?_;(repeat refine eV ?_);refine aa (hK _ (wK [4,95] ?_));clear hK K;exact ai (b6 Tryz.results116 Tryz.ntmps116 (.one (.re _ _ (.cell 4 _ _ _ _ rfl rfl aq rfl rfl (ao N5)))) (by decide) (by decide) rfl rfl rfl ⟨p5,s5,_,rfl,by omega,N5,rfl,ht5.mono (by omega) (by omega)⟩)
    ·refine ab (dR fun K hK=>?_);(repeat refine eV ?_);refine aa (hK _ (wK [0,1,4,28,95] ?_));clear hK K;refine dI ?_ ?_<;>intro hb
     ·have dX:=And.intro dX (@hmq);refine ab (dR fun K hK=>?_);(repeat refine eV ?_);have dX:=And.intro dX (@hmq);refine qn rfl ⟨rfl,_,rfl⟩ (by omega) (by first | exact Tt) (Ic bs p1 s1 (m / 2 + 1) _ (B + 2) rfl hby hp1 (by omega) (by omega) (by omega)) ?_;rintro _ ⟨p6,s6,_,rfl,hp6,N6,rfl,ht6⟩;refine ioF ?_;(repeat refine eV ?_);refine aa (hK _ (wK [0,1,4,5,95] ?_));clear hK K;have hs6:er N6:=ht6.small (by omega) (by omega);have dX:=And.intro dX (And.intro @netSt11.eq_def @hmq);refine ab (cm netSt11 (fun j r=>match j with | 5=>CurO bs (B + 2 + 144115188075855872 + 72057594037927936) (fun rs=>∃ N,rs = [.own true (netO N)] ∧ Drawn (m / 2 + 1) 80 N) r | 6=>∃ U,r = [.own true (netO U)] ∧ Drawn (m + 2) 400 U | _=>True) fun K hK=>?_);(repeat refine dV ?_);have dX:=And.intro dX (And.intro @netSt11.eq_def @hmq);refine jcv rfl ⟨rfl,_,rfl⟩ (by omega) (by first | exact yo | exact ut) (F6 bs p6 s6 (m / 2 + 1) _ (B + 2 + 144115188075855872) rfl hby hp6 (by omega) (by omega) (by omega)) (CurO.ex ⟨_,dn 1,rfl,(Drawn.empty (Nat.le_refl _) (by omega)).mono (Nat.le_refl _) (by omega)⟩) ?_;rintro _ ⟨p7,s7,_,rfl,hp7,N7,rfl,ht7⟩;refine po ?_;(repeat refine dV ?_);have dX:=And.intro dX (And.intro @netSt11.eq_def @hmq);refine dxF rfl ⟨rfl,_,rfl⟩ (by omega) (by first | exact yo | exact ut) ((Ev N6 N7 hs6 (ht7.small (by omega) (by omega)) ht7.sym).mono (fun r hr=>⟨_,hr,(ht6.union ht7).mono (by omega) (by omega)⟩)) rfl (⟨_,dn 1,rfl,(Drawn.empty (Nat.le_refl _) (by omega)).mono (Nat.le_refl _) (by omega)⟩) ?_;rintro _ ⟨U,rfl,hU⟩;(repeat refine dV ?_);refine ak (hK _ (wK [4,95] ?_));clear hK K;exact ai (b6 Tryz.results116 Tryz.ntmps116 (.one (.re _ _ (.cell 4 _ _ _ _ rfl rfl aq rfl rfl (ao U)))) (by decide) (by decide) rfl rfl rfl ⟨p7,s7,_,rfl,by omega,U,rfl,hU⟩)
     ·refine af ?_;show DW _ _ _ _ _;refine ab (dR fun K hK=>?_);(repeat refine eV ?_);refine kg rfl ⟨rfl,_,rfl⟩ (by omega) (by first | exact fg | exact nj) (ew bs p1 s1 m _ hby hp1 (by omega)) ?_;rintro _ ⟨p8,s8,_,rfl,hp8,y,rfl,hy⟩;refine ioF ?_;(repeat refine eV ?_);obtain ⟨n,hyn,hn1,hn2⟩:∃ n:Nat,(1:Int) + y = n ∧ 1 ≤ n ∧ n ≤ m:=⟨(1 + y).toNat,by have:=hy.1; omega,by have:=hy.1; omega,by have:=hy.2.2; omega⟩;rw [hyn];refine cL rfl ⟨rfl,_,rfl⟩ (by omega) (by first | exact fg | exact nj) (js n (by omega)) ?_;rintro _ rfl;(repeat refine eV ?_);have hel:(dn n).ends.length = n:=by simp [dn]
      refine aa (hK _ (wK [0,4,6,95] ?_));clear hK K;refine ab ?_;have dX:=And.intro dX (@hel);refine ab (dR fun K hK=>?_);(repeat refine eV ?_);have dX:=And.intro dX (@hel);refine kg rfl ⟨rfl,_,rfl⟩ (by omega) (by first | exact fg) (ew bs p8 s8 ((2:Int) * (n:Int)) _ hby hp8 (by omega)) ?_;rintro _ ⟨p9,s9,_,rfl,hp9,y2,rfl,hy2⟩;refine ioF ?_;(repeat refine eV ?_);obtain ⟨k0,rfl⟩:∃ k0:Nat,y2 = k0:=⟨y2.toNat,by have:=hy2.1; omega⟩;have hk0:k0 ≤ 80:=by have:=hy2.2.2; omega
      refine aa (hK _ (wK [0,4,6,7,95] ?_));clear hK K;refine ac ?_;refine ax (X:=Net × Nat × Nat × Int) (fun x=>x.2.1 ≤ 80 ∧ Drawn m (2 * (80 - x.2.1)) x.1 ∧ x.2.2.1 ≤ B + 2 + 2 + 2 + 6 * (80 - x.2.1)) (fun x=>[(7,.c (.p (.int .i64 x.2.1)))]) (fun x=>[((6,0),⟨some 31,[.sl true 95 1 (x.1.ends.map (esC 97)),.sl true 3 1 (x.1.ids.map iC),.sl true 3 1 (x.1.inputs.map iC)]⟩),((95,0),⟨some 69,[.sl false 5 1 (bs.map bC),.p (.int .i64 x.2.2.1),.p (.int .u64 x.2.2.2)]⟩)]) (fun x=>x.2.1) (dn n,k0,p9,s9) ⟨hk0,(Drawn.empty hn1 hn2).mono (Nat.le_refl _) (by dsimp only; omega),by dsimp only; omega⟩ (by first | rfl | (simp only [ae,pZ,simprocAttr,Int.natCast_zero] <;> rfl)) ?_;rintro ⟨N,k,q,u⟩ ⟨hk,hD,hq⟩;intro E hE;simp only [ae,pZ,simprocAttr] at hE;subst hE;dsimp only at hk hD hq ⊢;have hsm:er N:=hD.small (by omega) (by omega);have hdl:=hD.len;have hdp:=hD.pos;have hdi:=hD.ids;have hdn:=hD.ins;refine ab ?_;refine ab (dR fun K hK=>?_);(repeat refine eV ?_);refine aa (hK _ (wK [0,4,6,7,54,95] ?_));clear hK K;refine dI ?_ ?_<;>intro hb
      ·obtain ⟨k,rfl⟩:∃ k',k = k' + 1:=⟨k - 1,by simp at hb; omega⟩;have hkc:(((k + 1:Nat):Int) - 1) = (k:Int):=by omega
       refine af ?_;show DW _ _ _ _ _;refine ab (ac ?_);have dX:=And.intro dX (@netSt16.eq_def);refine ab (cm netSt16 (fun j r=>match j with | 4=>CurO bs (B + 2 + 2 + 2 + 6 * (80 - (k + 1)) + 2) (fun rs=>∃ x,rs = [.c (.p (.int .i64 x))] ∧ n5 (N.ends.length:Int) x) r | 9=>CurO bs (B + 2 + 2 + 2 + 6 * (80 - (k + 1)) + 2 + 2) (fun rs=>∃ x,rs = [.c (.p (.int .i64 x))] ∧ n5 (N.ends.length:Int) x) r | _=>True) fun K hK=>?_);(repeat refine dV ?_);have dX:=And.intro dX (@netSt16.eq_def);refine rx rfl ⟨rfl,_,rfl⟩ (by omega) (by first | exact fg) (ew bs q u (N.ends.length:Int) (B + 2 + 2 + 2 + 6 * (80 - (k + 1))) hby hq (by omega)) (CurO.ex ⟨_,0,rfl,tn _⟩) ?_;rintro _ ⟨q3,u3,_,rfl,hq3,y3,rfl,hy3⟩;refine po ?_;(repeat refine dV ?_);have dX:=And.intro dX (@netSt16.eq_def);refine rx rfl ⟨rfl,_,rfl⟩ (by omega) (by first | exact fg) (ew bs q3 u3 (N.ends.length:Int) (B + 2 + 2 + 2 + 6 * (80 - (k + 1)) + 2) hby hq3 (by omega)) (CurO.ex ⟨_,0,rfl,tn _⟩) ?_;rintro _ ⟨q4,u4,_,rfl,hq4,y4,rfl,hy4⟩;refine po ?_;(repeat refine dV ?_);obtain ⟨a,rfl⟩:∃ a:Nat,y3 = a:=⟨y3.toNat,by have:=hy3.1; omega⟩;obtain ⟨b,rfl⟩:∃ b:Nat,y4 = b:=⟨y4.toNat,by have:=hy4.1; omega⟩;have ha:a < N.ends.length:=by have:=hy3.2.2; omega
       have hbN:b < N.ends.length:=by have:=hy4.2.2; omega
       refine ak (hK _ (wK [0,4,6,7,8,9,95] ?_));clear hK K;refine ab ?_;have dX:=And.intro dX (@ef);refine ab (dR fun K hK=>?_);(repeat refine eV ?_);obtain h1 | h1:=Bool.eq_false_or_eq_true (decide (((gl N.ends a).length:Int) > 4))
       ·have dX:=And.intro dX (@h1);(repeat refine eV ?_);refine aa (hK _ (wK [0,4,6,7,8,9,82,95] ?_));clear hK K;refine dI ?_ ?_<;>intro hb
        ·refine Fj ?_;refine bd [0,4,6,7,95] (by simp only [ae,pZ,simprocAttr]; exact rfl) ?_;refine dR fun K hK=>?_;(repeat refine eV ?_);have dK:=@hkc;refine aa (hK _ ?_);clear hK K;show ∃ x,_ ∧ _ ∧ Weak _ _;refine ⟨(N,k,q4,u4),?_,?_,ay [0,4,6,7,95]⟩
         ·exact ⟨by dsimp only; omega,hD.mono (Nat.le_refl _) (by dsimp only; omega),by dsimp only; omega⟩
         ·dsimp only; omega
        ·cases hb
       ·have dX:=And.intro dX (And.intro @h1 @ef);(repeat refine eV ?_);refine aa (hK _ (wK [0,4,6,7,8,9,82,95] ?_));clear hK K;refine dI ?_ ?_<;>intro hb
        ·refine Fj ?_;refine bd [0,4,6,7,95] (by simp only [ae,pZ,simprocAttr]; exact rfl) ?_;refine dR fun K hK=>?_;(repeat refine eV ?_);have dK:=@hkc;refine aa (hK _ ?_);clear hK K;show ∃ x,_ ∧ _ ∧ Weak _ _;refine ⟨(N,k,q4,u4),?_,?_,ay [0,4,6,7,95]⟩
         ·exact ⟨by dsimp only; omega,hD.mono (Nat.le_refl _) (by dsimp only; omega),by dsimp only; omega⟩
         ·dsimp only; omega
        ·refine af ?_;show DW _ _ _ _ _;refine ab (dR fun K hK=>?_);(repeat refine eV ?_);refine kg rfl ⟨rfl,_,rfl⟩ (by omega) (by first | exact tr) (tq bs q4 u4 5 _ hby hq4 (by omega)) ?_;rintro _ ⟨q5,u5,_,rfl,hq5,b5,rfl⟩;refine ioF ?_;(repeat refine eV ?_);refine aa (hK _ (wK [0,4,6,7,8,9,84,95] ?_));clear hK K;refine dI ?_ ?_<;>intro hb
         ·refine dR fun K hK=>?_;(repeat refine eV ?_);refine cL rfl ⟨rfl,_,rfl⟩ (by omega) (by first | exact Zv) (Tc N a hsm ha) ?_;rintro _ rfl;(repeat refine eV ?_);refine aa (hK _ (wK [0,4,6,7,95] ?_));clear hK K;refine dR fun K hK=>?_;(repeat refine eV ?_);have dK:=@hkc;refine aa (hK _ ?_);clear hK K;show ∃ x,_ ∧ _ ∧ Weak _ _;refine ⟨(Bm N a,k,q5,u5),?_,?_,ay [0,4,6,7,95]⟩
          ·exact ⟨by dsimp only; omega,(hD.stub ha).mono (Nat.le_refl _) (by dsimp only; omega),by dsimp only; omega⟩
          ·dsimp only; omega
         ·refine dR fun K hK=>?_;(repeat refine eV ?_);refine cL rfl ⟨rfl,_,rfl⟩ (by omega) (by first | exact Gm) (ww N a b hsm ha hbN) ?_;rintro _ rfl;(repeat refine eV ?_);refine aa (hK _ (wK [0,4,6,7,95] ?_));clear hK K;refine dR fun K hK=>?_;(repeat refine eV ?_);have dK:=@hkc;refine aa (hK _ ?_);clear hK K;show ∃ x,_ ∧ _ ∧ Weak _ _;refine ⟨(od N a b,k,q5,u5),?_,?_,ay [0,4,6,7,95]⟩
          ·exact ⟨by dsimp only; omega,(hD.join ha hbN).mono (Nat.le_refl _) (by dsimp only; omega),by dsimp only; omega⟩
          ·dsimp only; omega
      ·refine an ?_;refine bd [0,4,6,95] (by simp only [ae,pZ,simprocAttr]; exact rfl) ?_;refine ab (dR fun K hK=>?_);(repeat refine eV ?_);refine giF rfl ⟨rfl,_,rfl⟩ (by omega) (by first | exact Gk) (Au bs q u N (B + 600) hby (by omega) (by omega) (by omega) (fun a _=>by have:=hD.deg a; unfold dg at this; omega) (by omega) (by omega) hD.sym) ?_;rintro _ ⟨q9,u9,_,rfl,hq9,M,rfl,hM⟩;refine Xc ?_;(repeat refine eV ?_);refine aa (hK _ (wK [4,95] ?_));clear hK K;exact ai (b6 Tryz.results116 Tryz.ntmps116 (.one (.re _ _ (.cell 4 _ _ _ _ rfl rfl aq rfl rfl (ao M)))) (by decide) (by decide) rfl rfl rfl ⟨q9,u9,_,rfl,by omega,M,rfl,(hD.mono (by omega) (by omega)).alike hM⟩)
end
section
open Go Go.RowKit
def zBDan1:=PLift.up (And.intro aq (And.intro @cf (And.intro bn (And.intro b7 (And.intro @if_pos.{1} (And.intro cd (And.intro @netO.eq_1 (And.intro @netZ.eq_1 @trivial))))))))
theorem ja0:type_of% zBDan1.down:=zBDan1.down
set_option maxRecDepth 8000 in
set_option maxHeartbeats 0 in
theorem Vo (bs:List Int) (p:Nat) (s:Int) (m:Nat) (z:Int) (B:Nat) (hz:z = m) (hby:dp bs) (hp:p ≤ B) (hB:B + 576460752340000000 ≤ 4611686018427387900) (hm1:1 ≤ m) (hm2:m ≤ 38):dr Tryz.prog 85 [.io 69 (curC bs p s),.c (.p (.int .i64 z))] (CurO bs (B + 576460752340000000) fun rs=>∃ N,rs = [.own true (netO N)] ∧ Tame N):=by
 subst hz;refine fz Tryz.func85 rfl (by rw [Tryz.ntmps85]; simp) fun w0=>?_;rw [Tryz.ntmps85];have dX:=ja0;simp only [jt,bf,Arg.av,curC];refine ab (dR fun K hK=>?_);(repeat refine eV ?_);refine aa (hK _ (wK [0,1,4,17] ?_));clear hK K;refine ab (dR fun K hK=>?_);(repeat refine eV ?_);refine qn rfl ⟨rfl,_,rfl⟩ (by omega) (by first | exact Cj) (Nx bs p s m _ B rfl hby hp (by omega) (by omega) (by omega)) ?_;rintro _ ⟨p1,s1,_,rfl,hp1,N1,rfl,ht1⟩;refine ioF ?_;(repeat refine eV ?_);refine aa (hK _ (wK [0,4,5,17] ?_));clear hK K;have hD1:Drawn 40 500 N1:=ht1.mono (by omega) (by omega);refine vj 5 [0,4,5,17] (by simp only [ae,pZ,simprocAttr]; exact rfl) ?_;refine pn (X:=Net × Nat × Int) (fun x=>Drawn 40 500 x.1 ∧ x.2.1 ≤ B + 576460752303423488 + 2 + 4194304) (fun x=>mkE 17 [(0,.ptr 17 0 [(0,0)] 0),(4,.box),(5,.box),(17,.dead)] [((4,0),⟨some 31,[.p (.slice none 0 0),.p (.slice none 0 0),.p (.slice none 0 0)]⟩),((5,0),⟨some 31,[.sl false 95 1 (x.1.ends.map (esC 97)),.sl false 3 1 (x.1.ids.map iC),.sl false 3 1 (x.1.inputs.map iC)]⟩),((17,0),⟨some 69,[.sl false 5 1 (bs.map bC),.p (.int .i64 x.2.1),.p (.int .u64 x.2.2)]⟩)]) ?_ ?_
 ·refine ab (dR fun K hK=>?_);(repeat refine eV ?_);refine kg rfl ⟨rfl,_,rfl⟩ (by omega) (by first | exact tr) (tq bs p1 s1 3 _ hby hp1 (by omega)) ?_;rintro _ ⟨p2,s2,_,rfl,hp2,b2,rfl⟩;refine ioF ?_;(repeat refine eV ?_);refine aa (hK _ (wK [0,4,5,10,17] ?_));clear hK K;refine dI ?_ ?_<;>intro hb
  ·refine dR fun K hK=>?_;(repeat refine eV ?_);refine qn rfl ⟨rfl,_,rfl⟩ (by omega) (by first | exact Tv) (Eb bs p2 s2 NFz N1 (B + 576460752303423488 + 2) hby hp2 (by omega) (hD1.small (by omega) (by omega))) ?_;rintro _ ⟨p3,s3,_,rfl,hp3,M,rfl,hM⟩;refine ioF ?_;(repeat refine eV ?_);refine aa (hK _ ?_);clear hK K;show ∃ x,_ ∧ Weak _ _;refine ⟨(M,p3,s3),?_,((gf _ 5).trans (ce _ [0,4,5,17])).trans (Weak.of_eq (by simp only [ae,pZ,simprocAttr] <;> exact rfl))⟩;exact ⟨hD1.withIds hM,hp3⟩
  ·refine af ?_;show ∃ x,_ ∧ Weak _ _;refine ⟨(N1,p2,s2),?_,(ce _ [0,4,5,17]).trans (Weak.of_eq (by simp only [ae,pZ,simprocAttr] <;> exact rfl))⟩;exact ⟨hD1,by dsimp only; omega⟩
 ·rintro ⟨M,p4,s4⟩ ⟨hD,hp4⟩;dsimp only at hD hp4 ⊢;refine ab (dR fun K hK=>?_);(repeat refine eV ?_);refine qn rfl ⟨rfl,_,rfl⟩ (by omega) (by first | exact Yk) (I0 bs p4 s4 NFz M (B + 576460752303423488 + 2 + 4194304) hby hp4 (by omega) hD) ?_;rintro _ ⟨p5,s5,_,rfl,hp5,M2,rfl,hT⟩;refine ioF ?_;(repeat refine eV ?_);refine aa (hK _ (wK [4,17] ?_));clear hK K;exact ai (b6 Tryz.results85 Tryz.ntmps85 (.one (.re _ _ (.cell 4 _ _ _ _ rfl rfl aq rfl rfl (ao M2)))) (by decide) (by decide) rfl rfl rfl ⟨p5,s5,_,rfl,by omega,M2,rfl,hT⟩)
end
end Go.Proofs.YtfknckinfcicbaaGreat

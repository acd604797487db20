/- Parts of the proof. -/
import Derived.Test.YtfknckinfcicbaaGreatCJn19
import Derived.Test.YtfknckinfcicbaaGreatCDcv
import Derived.Test.YtfknckinfcicbaaGreatCDt
import Derived.Test.YtfknckinfcicbaaGreatCJn13
set_option linter.unusedSimpArgs false
set_option linter.unusedVariables false
namespace Go.Proofs.YtfknckinfcicbaaGreat
section
open Go Go.RowKit
theorem ef {t2:TypeId} {ess:List (List (Int × Int))} {k:Nat} (h:k < ess.length):cg (ess.map (esC t2)) k 0 = some (.sl true t2 2 ((gl ess k).map eC)):=bi.2 ⟨_,by rw [List.getElem?_map,List.getElem?_eq_getElem h]; rfl,by rw [esC,jg h]; rfl⟩
theorem Gz {t2:TypeId} {ess:List (List (Int × Int))} {k:Nat} {es:List (Int × Int)}:(((ess.map (esC t2)).modify k fun row=>row.modify 0 fun _=>C.hole).modify k fun row=>row.modify 0 fun _=>C.sl true t2 2 (es.map eC)) = (ess.set k es).map (esC t2):=by
 apply List.ext_getElem?;intro i;simp only [List.getElem?_modify,List.getElem?_map,List.getElem?_set]
 by_cases h:k = i
 ·subst h
  by_cases hk:k < ess.length
  ·simp [List.getElem?_eq_getElem hk,hk,esC]
  ·simp [List.getElem?_eq_none (Nat.le_of_not_lt hk),hk]
 ·simp [h]
theorem js (n:Nat) (hn:n ≤ 1000):DCalls Tryz.prog 129 [.c (.p (.int .i64 n))] (fun r=>r = [.own true (netO (dn n))]):=Fm fun w vs h1 h2=>by
 obtain ⟨u,rfl,g1⟩:=J6 h1 h2;rw [J9 g1];exact Iz n w (by omega)
theorem jr {t2:TypeId} {ess:List (List (Int × Int))} {k:Nat} {y:C} (h:k < ess.length):cg ((ess.map (esC t2)).modify k fun row=>row.modify 0 fun _=>y) k 0 = some y:=bi.2 ⟨[y],by simp [List.getElem?_modify,List.getElem?_eq_getElem h,esC],rfl⟩
theorem mu {t2:TypeId} {ess:List (List (Int × Int))} {k:Nat} {es:List (Int × Int)}:((((ess.map (esC t2)).modify k fun row=>row.modify 0 fun _=>C.hole).modify k fun row=>row.modify 0 fun _=>C.hole).modify k fun row=>row.modify 0 fun _=>C.sl true t2 2 (es.map eC)) = (ess.set k es).map (esC t2):=by
 apply List.ext_getElem?;intro i;simp only [List.getElem?_modify,List.getElem?_map,List.getElem?_set]
 by_cases h:k = i
 ·subst h
  by_cases hk:k < ess.length
  ·simp [List.getElem?_eq_getElem hk,hk,esC]
  ·simp [List.getElem?_eq_none (Nat.le_of_not_lt hk),hk]
 ·simp [h]
theorem E9 {L:List (List (Int × Int))} {v x:Nat} {A:List (Int × Int)} (h:x ≠ v):gl (L.set v A) x = gl L x:=by
 unfold gl;rw [List.getD_eq_getElem?_getD,List.getD_eq_getElem?_getD,List.getElem?_set_ne (Ne.symm h)]
end
section
open Go Go.RowKit
def Ma (n k:Nat):List (Int × Int):=[((k + 1:Int).tmod n,1),((k + n - 1:Int).tmod n,0)]
def mc (n k:Nat):Net:=⟨(List.range n).map fun v=>if v < k then Ma n v else [],[],List.replicate n 0⟩
theorem jdo (n:Nat):dn n = mc n 0:=by
 unfold dn mc
 congr 1
 apply List.ext_getElem
 ·simp
 ·intro i h1 h2; simp
theorem Xt {n k:Nat} (h:k < n):(mc n k).ends.set k (Ma n k) = (mc n (k + 1)).ends:=by
 unfold mc;apply List.ext_getElem
 ·simp
 ·intro i h1 h2;simp only [List.getElem_set,List.getElem_map,List.getElem_range]
  by_cases h3:k = i
  ·subst h3; rw [if_pos rfl,if_pos (by omega)]
  ·rw [if_neg h3]
   by_cases h4:i < k
   ·rw [if_pos h4,if_pos (by omega)]
   ·rw [if_neg h4,if_neg (by omega)]
theorem Xu {t2:TypeId} {n k:Nat} (h:k < n):((((mc n k).ends.map (esC t2)).modify k fun row=>row.modify 0 fun _=>C.hole).modify k fun row=>row.modify 0 fun _=>C.sl true t2 2 [[C.p (.int .i64 ((k + 1:Int).tmod n)),C.p (.int .i64 1)],[C.p (.int .i64 ((k + n - 1:Int).tmod n)),C.p (.int .i64 0)]]) = (mc n (k + 1)).ends.map (esC t2):=by
 rw [← Xt h];exact Gz (es:=Ma n k)
theorem Oy (n k:Nat):(mc n k).ends.length = n:=by simp [mc]
def buCycleSt5:Nat → Stat
 | 0=>⟨[3],[(3,1)],[],[13],[],[]⟩
 | 1=>⟨[13],[(3,1)],[],[14],[],[]⟩
 | 2=>⟨[4],[],[],[15],[],[]⟩
 | 3=>⟨[4],[],[],[16],[],[]⟩
 | 4=>⟨[16],[],[],[17],[],[]⟩
 | 5=>⟨[0],[],[],[18],[],[]⟩
 | 6=>⟨[17,18],[],[],[19],[],[]⟩
 | 7=>⟨[19],[],[],[20],[],[]⟩
 | 8=>⟨[4],[],[],[21],[],[]⟩
 | 9=>⟨[0],[],[],[22],[],[]⟩
 | 10=>⟨[21,22],[],[],[23],[],[]⟩
 | 11=>⟨[23],[],[],[24],[],[]⟩
 | 12=>⟨[0],[],[],[25],[],[]⟩
 | 13=>⟨[24,25],[],[],[26],[],[]⟩
 | 14=>⟨[26],[],[],[27],[],[]⟩
 | 15=>⟨[20,27],[],[],[28],[],[]⟩
 | 16=>⟨[14,15],[(3,1)],[],[29],[],[]⟩
 | 17=>⟨[29,28],[(3,2)],[28],[],[(3,2),(28,1)],[]⟩
 | _=>⟨[],[],[],[],[],[]⟩
def zBCyc1:=PLift.up (And.intro aq (And.intro @netO.eq_1 (And.intro @cf (And.intro bn (And.intro b7 (And.intro cd (And.intro ch (And.intro bb (And.intro @if_pos.{1} @trivial)))))))))
theorem ja1:type_of% zBCyc1.down:=zBCyc1.down
set_option maxRecDepth 8000 in
set_option maxHeartbeats 0 in
theorem Q5 (n:Nat) (hn:n ≤ 600) (hp:0 < n):DCalls Tryz.prog 127 [.c (.p (.int .i64 n))] (fun r=>r = [.own true (netO (mc n n))]):=by
 refine aw Tryz.func127 rfl (by rw [Tryz.ntmps127]; simp) fun w0=>?_;rw [Tryz.ntmps127];have dX:=ja1;simp only [bw,bf,Arg.av];refine ab (dR fun K hK=>?_);(repeat refine eV ?_);refine aa (hK _ (wK [0,2] ?_));clear hK K;refine ab (dR fun K hK=>?_);(repeat refine eV ?_);refine cL rfl ⟨rfl,_,rfl⟩ (by omega) (by first | exact nj) (js n (by omega)) ?_;rintro _ rfl;(repeat refine eV ?_)
 have dK:=@jdo
 refine aa (hK _ (au [0,2,3] ?_));clear hK K;have hl:=Oy n;refine ab ?_;have dX:=And.intro dX (@hl);refine ab (dR fun K hK=>?_);(repeat refine eV ?_);have dK:=@hl;refine aa (hK _ (au [0,2,3,9,10] ?_));clear hK K;refine ac ?_;refine ax (X:=Nat) (fun k=>k ≤ n) (fun k=>[(10,.c (.p (.int .i64 k)))]) (fun k=>[((3,0),⟨some 31,[.sl true 95 1 ((mc n k).ends.map (esC 97)),.sl true 3 1 ((mc n k).ids.map iC),.sl true 3 1 ((mc n k).inputs.map iC)]⟩)]) (fun k=>n - k) 0 (Nat.zero_le _) (by first | rfl | (simp only [ae,pZ,simprocAttr,Int.natCast_zero] <;> rfl)) ?_;rintro k hk;intro E hE;simp only [ae,pZ,simprocAttr] at hE;subst hE;refine ab (dR fun K hK=>?_);(repeat refine eV ?_);refine aa (hK _ (wK [0,2,3,9,10,11] ?_));clear hK K;refine ab (dI (fun hb=>?_) (fun hb=>?_))
 ·have hkn:k < n:=by simp at hb; omega
  have hn0:((n:Int) = 0) ↔ False:=⟨fun h=>by omega,False.elim⟩;have hl':=hl k;refine af ?_;show DW _ _ _ _ _;refine ab (ac ?_);refine ab (dR fun K hK=>?_);(repeat refine eV ?_);refine aa (hK _ (wK [0,2,3,4,9,10] ?_));clear hK K;have dX:=And.intro dX (And.intro @buCycleSt5.eq_def (And.intro @hn0 (And.intro @ef @hl')));refine cm buCycleSt5 (fun j r=>match j with | _=>True) fun K hK=>?_;(repeat refine dV ?_);refine ak (hK _ (bd [0,2,3,9,10] (by simp only [ae,pZ,simprocAttr ,Xu hkn]; exact rfl) ?_));clear hK K;refine dR fun K hK=>?_;(repeat refine eV ?_);have dK:=@bj;refine aa (hK _ ?_);clear hK K;show ∃ x,_ ∧ _ ∧ Weak _ _;refine ⟨k + 1,?_,?_,ay [0,2,3,9,10]⟩
  ·omega
  ·omega
 ·have hkn:k = n:=by simp at hb; omega
  subst hkn;refine an ?_;refine wK [2,3] ?_;refine ab (dR fun K hK=>?_);(repeat refine eV ?_);refine aa (hK _ (wK [2] ?_));clear hK K;exact ai (am Tryz.results127 (.one (.cell 2 _ _ _ _ rfl rfl aq rfl rfl (ao _))) (by decide) rfl)
end
section
open Go Go.RowKit
def xg (E:List (List (Int × Int))) (v i j:Nat):Nat:=if j < v then (gl E j).length else if j = v then i else 0
def i8 (E:List (List (Int × Int))) (v i:Nat):List (List (Int × Int)):=(List.range (2 * E.length)).map fun j =>
 if j < E.length then ((gl E j).take (xg E v i j)).map (fun e:Int × Int=>(e.1 + (E.length:Int),e.2)) else (gl E (j - E.length)).take (xg E v i (j - E.length))
def Ha (N:Net) (v:Nat):List Int:=(List.range (2 * N.ends.length)).map fun j =>
 if j < N.ends.length then (if j < v then gi N.inputs j else 0) else if j - N.ends.length < v then gi N.inputs (j - N.ends.length) else 0
def pq (N:Net) (v:Nat):Net:=⟨i8 N.ends v 0,[],Ha N v⟩
theorem jdn (N:Net):dn (2 * N.ends.length) = pq N 0:=by
 unfold dn pq
 congr 1
 ·apply List.ext_getElem
  ·simp [i8]
  ·intro j h1 h2;simp only [i8,List.getElem_replicate,List.getElem_map,List.getElem_range];have hc:∀ k,xg N.ends 0 0 k = 0:=fun k=>by unfold xg; rw [if_neg (by omega)]; split <;> rfl
   split <;> simp [hc]
 ·apply List.ext_getElem
  ·simp [Ha]
  ·intro j h1 h2;simp only [Ha,List.getElem_replicate,List.getElem_map,List.getElem_range];split <;> simp
theorem kc (E:List (List (Int × Int))) (v i:Nat):(i8 E v i).length = 2 * E.length:=by simp [i8]
theorem C6 (N:Net) (v:Nat):(Ha N v).length = 2 * N.ends.length:=by simp [Ha]
theorem G8 {E:List (List (Int × Int))} {v i:Nat} (h:v < E.length):gl (i8 E v i) v = ((gl E v).take i).map (fun e:Int × Int=>(e.1 + (E.length:Int),e.2)):=by
 rw [jg (by rw [kc]; omega)];simp only [i8,List.getElem_map,List.getElem_range];rw [if_pos h];have:xg E v i v = i:=by unfold xg; rw [if_neg (by omega),if_pos rfl]
 rw [this]
theorem G9 {E:List (List (Int × Int))} {v i:Nat} (h:v < E.length):gl (i8 E v i) (v + E.length) = (gl E v).take i:=by
 rw [jg (by rw [kc]; omega)];simp only [i8,List.getElem_map,List.getElem_range];rw [if_neg (by omega),Nat.add_sub_cancel];have:xg E v i v = i:=by unfold xg; rw [if_neg (by omega),if_pos rfl]
 rw [this]
theorem U0 {E:List (List (Int × Int))} {v i x:Nat} (h:v < E.length) (hi:i < (gl E v).length) (hx:v + E.length = x) :
 (((i8 E v i).set v (gl (i8 E v i) v ++ [((gp (gl E v) i).1 + (E.length:Int),(gp (gl E v) i).2)])).set x (gl (i8 E v i) x ++ [((gp (gl E v) i).1,(gp (gl E v) i).2)])) = i8 E v (i + 1):=by
 subst hx;rw [G8 h,G9 h];have ht:(gl E v).take (i + 1) = (gl E v).take i ++ [gp (gl E v) i]:=by rw [List.take_add_one,List.getElem?_eq_getElem hi,gb hi]; rfl
 apply List.ext_getElem
 ·simp [kc]
 ·intro j h1 h2;rw [kc] at h2;simp only [List.getElem_set]
  by_cases h3:v + E.length = j
  ·rw [if_pos h3];have:=G9 (i:=i + 1) h;rw [h3,jg (by rw [kc]; omega),ht] at this;exact this.symm
  ·rw [if_neg h3]
   by_cases h4:v = j
   ·subst h4;rw [if_pos rfl];have:=G8 (i:=i + 1) h;rw [jg (by rw [kc]; omega),ht,List.map_append] at this;exact this.symm
   ·rw [if_neg h4];simp only [i8,List.getElem_map,List.getElem_range];have hc:∀ k,k ≠ v → xg E v i k = xg E v (i + 1) k:=fun k hk=>by unfold xg; rw [if_neg hk,if_neg hk]
    split
    ·rw [hc j (Ne.symm h4)]
    ·rw [hc _ (by omega)]
theorem Q0 {E:List (List (Int × Int))} {v:Nat}:i8 E v (gl E v).length = i8 E (v + 1) 0:=by
 unfold i8
 have hc:∀ k,xg E v (gl E v).length k = xg E (v + 1) 0 k:=fun k=>by
  unfold xg
  by_cases h:k < v
  ·rw [if_pos h,if_pos (by omega)]
  ·by_cases h2:k = v
   ·subst h2; rw [if_neg h,if_pos rfl,if_pos (by omega)]
   ·rw [if_neg h,if_neg h2,if_neg (by omega)]; split <;> rfl
 congr 1
 funext j;rw [hc,hc]
theorem Q1 {N:Net} {v x:Nat} (h:v < N.ends.length) (hx:v + N.ends.length = x):(((pq N v).inputs.set v (gi N.inputs v)).set x (gi N.inputs v)) = (pq N (v + 1)).inputs:=by
 subst hx;show ((Ha N v).set v _).set _ _ = Ha N (v + 1);apply List.ext_getElem
 ·simp [C6]
 ·intro j h1 h2;simp only [List.getElem_set];simp only [Ha,List.getElem_map,List.getElem_range]
  by_cases h3:v + N.ends.length = j
  ·subst h3;rw [if_pos rfl,if_neg (by omega),if_pos (by omega),Nat.add_sub_cancel]
  ·rw [if_neg h3]
   by_cases h4:v = j
   ·subst h4; rw [if_pos rfl,if_pos h,if_pos (by omega)]
   ·rw [if_neg h4]
    by_cases h5:j < N.ends.length
    ·rw [if_pos h5,if_pos h5]
     by_cases h6:j < v
     ·rw [if_pos h6,if_pos (by omega)]
     ·rw [if_neg h6,if_neg (by omega)]
    ·rw [if_neg h5,if_neg h5]
     by_cases h6:j - N.ends.length < v
     ·rw [if_pos h6,if_pos (by omega)]
     ·rw [if_neg h6,if_neg (by omega)]
theorem L8 {E:List (List (Int × Int))} {v i:Nat} (h:v < E.length) (hi:i ≤ (gl E v).length):(gl (i8 E v i) v).length = i:=by rw [G8 h]; simp; omega
theorem L9 {E:List (List (Int × Int))} {v i:Nat} (h:v < E.length) (hi:i ≤ (gl E v).length):(gl (i8 E v i) (v + E.length)).length = i:=by rw [G9 h]; simp; omega
def buDoubleSt9:Nat → Stat
 | 0=>⟨[4],[(4,1)],[],[29],[],[]⟩
 | 1=>⟨[29],[(4,1)],[],[30],[],[]⟩
 | 2=>⟨[5],[],[],[31],[],[]⟩
 | 3=>⟨[4],[(4,1)],[],[32],[],[]⟩
 | 4=>⟨[32],[(4,1)],[],[33],[],[]⟩
 | 5=>⟨[5],[],[],[34],[],[]⟩
 | 6=>⟨[33,34],[(4,1)],[],[35],[],[]⟩
 | 7=>⟨[35],[(4,2)],[],[36],[],[]⟩
 | 8=>⟨[8],[(8,1)],[],[37],[],[]⟩
 | 9=>⟨[37],[(8,1)],[],[38],[],[]⟩
 | 10=>⟨[3],[],[],[39],[],[]⟩
 | 11=>⟨[38,39],[],[],[40],[],[]⟩
 | 12=>⟨[8],[(8,1)],[],[41],[],[]⟩
 | 13=>⟨[41],[(8,1)],[],[42],[],[]⟩
 | 14=>⟨[40,42],[],[],[43],[],[]⟩
 | 15=>⟨[43],[],[],[44],[],[]⟩
 | 16=>⟨[36,44],[(4,2),(44,1)],[4,44],[45],[(4,2)],[]⟩
 | 17=>⟨[30,31],[(4,1)],[],[46],[],[]⟩
 | 18=>⟨[46,45],[(4,2)],[45],[],[(4,2),(45,1)],[]⟩
 | _=>⟨[],[],[],[],[],[]⟩
def buDoubleSt10:Nat → Stat
 | 0=>⟨[4],[(4,1)],[],[47],[],[]⟩
 | 1=>⟨[47],[(4,1)],[],[48],[],[]⟩
 | 2=>⟨[5],[],[],[49],[],[]⟩
 | 3=>⟨[3],[],[],[50],[],[]⟩
 | 4=>⟨[49,50],[],[],[51],[],[]⟩
 | 5=>⟨[4],[(4,1)],[],[52],[],[]⟩
 | 6=>⟨[52],[(4,1)],[],[53],[],[]⟩
 | 7=>⟨[5],[],[],[54],[],[]⟩
 | 8=>⟨[3],[],[],[55],[],[]⟩
 | 9=>⟨[54,55],[],[],[56],[],[]⟩
 | 10=>⟨[53,56],[(4,1)],[],[57],[],[]⟩
 | 11=>⟨[57],[(4,2)],[],[58],[],[]⟩
 | 12=>⟨[8],[(8,1)],[],[59],[],[]⟩
 | 13=>⟨[59],[],[],[60],[],[]⟩
 | 14=>⟨[58,60],[(4,2),(60,1)],[4,60],[61],[(4,2)],[]⟩
 | 15=>⟨[48,51],[(4,1)],[],[62],[],[]⟩
 | 16=>⟨[62,61],[(4,2)],[61],[],[(4,2),(61,1)],[]⟩
 | _=>⟨[],[],[],[],[],[]⟩
def buDoubleSt12:Nat → Stat
 | 0=>⟨[4],[(4,1)],[],[64],[],[]⟩
 | 1=>⟨[64],[(4,1)],[],[65],[],[]⟩
 | 2=>⟨[5],[],[],[66],[],[]⟩
 | 3=>⟨[1],[(1,1)],[],[67],[],[]⟩
 | 4=>⟨[67],[(1,1)],[],[68],[],[]⟩
 | 5=>⟨[5],[],[],[69],[],[]⟩
 | 6=>⟨[68,69],[(1,1)],[],[70],[],[]⟩
 | 7=>⟨[70],[(1,2)],[],[71],[],[]⟩
 | 8=>⟨[65,66],[(4,1)],[],[72],[],[]⟩
 | 9=>⟨[72,71],[(4,2)],[],[],[(4,2)],[]⟩
 | _=>⟨[],[],[],[],[],[]⟩
def buDoubleSt13:Nat → Stat
 | 0=>⟨[4],[(4,1)],[],[73],[],[]⟩
 | 1=>⟨[73],[(4,1)],[],[74],[],[]⟩
 | 2=>⟨[5],[],[],[75],[],[]⟩
 | 3=>⟨[3],[],[],[76],[],[]⟩
 | 4=>⟨[75,76],[],[],[77],[],[]⟩
 | 5=>⟨[1],[(1,1)],[],[78],[],[]⟩
 | 6=>⟨[78],[(1,1)],[],[79],[],[]⟩
 | 7=>⟨[5],[],[],[80],[],[]⟩
 | 8=>⟨[79,80],[(1,1)],[],[81],[],[]⟩
 | 9=>⟨[81],[(1,2)],[],[82],[],[]⟩
 | 10=>⟨[74,77],[(4,1)],[],[83],[],[]⟩
 | 11=>⟨[83,82],[(4,2)],[],[],[(4,2)],[]⟩
 | _=>⟨[],[],[],[],[],[]⟩
def zBDbl1:=PLift.up (And.intro aq (And.intro @netO.eq_1 (And.intro @cf (And.intro bn (And.intro b7 (And.intro cd (And.intro ch (And.intro bb (And.intro @if_pos.{1} (And.intro @cx (And.intro @cw (And.intro @bo @trivial))))))))))))
theorem jax:type_of% zBDbl1.down:=zBDbl1.down
set_option maxRecDepth 8000 in
set_option maxHeartbeats 0 in
theorem Mj (f:NF) (N:Net) (hn:N.ends.length ≤ 300) (hin:N.inputs.length = N.ends.length) (hdg:∀ v,v < N.ends.length → (gl N.ends v).length ≤ 1000) (hrg:∀ v i,v < N.ends.length → i < (gl N.ends v).length → -1000 ≤ (gp (gl N.ends v) i).1 ∧ (gp (gl N.ends v) i).1 ≤ 1000) :
 DCalls Tryz.prog 115 [.agg (be f N)] (fun r=>r = [.own true (netO (pq N N.ends.length))]):=by
 have h2n:(2 * (N.ends.length:Int)) = ((2 * N.ends.length:Nat):Int):=by omega
 refine aw Tryz.func115 rfl (by rw [Tryz.ntmps115]; simp) fun w0=>?_;rw [Tryz.ntmps115];have dX:=jax;simp only [bw,bf,Arg.av,be,b9,ints,ends];refine ab (dR fun K hK=>?_);(repeat refine eV ?_);refine aa (hK _ (wK [1,2] ?_));clear hK K;refine ab (dR fun K hK=>?_);(repeat refine eV ?_);refine aa (hK _ (wK [1,2,3] ?_));clear hK K;have dX:=And.intro dX (@h2n);refine ab (dR fun K hK=>?_);(repeat refine eV ?_);have dX:=And.intro dX (@h2n);refine cL rfl ⟨rfl,_,rfl⟩ (by omega) (by first | exact nj) (js (2 * N.ends.length) (by omega)) ?_;rintro _ rfl;(repeat refine eV ?_);have dK:=@jdn;refine aa (hK _ (au [1,2,3,4] ?_));clear hK K;refine ab ?_;refine ab (dR fun K hK=>?_);(repeat refine eV ?_);refine aa (hK _ (wK [1,2,3,4,16,17,18] ?_));clear hK K;refine ac ?_;refine ax (X:=Nat) (fun v=>v ≤ N.ends.length) (fun v=>[(18,.c (.p (.int .i64 v)))]) (fun v=>[((4,0),⟨some 31,[.sl true 95 1 ((pq N v).ends.map (esC 97)),.sl true 3 1 ((pq N v).ids.map iC),.sl true 3 1 ((pq N v).inputs.map iC)]⟩)]) (fun v=>N.ends.length - v) 0 (Nat.zero_le _) (by first | rfl | (simp only [ae,pZ,simprocAttr,Int.natCast_zero] <;> rfl)) ?_;rintro v hv;intro E hE;simp only [ae,pZ,simprocAttr] at hE;subst hE;refine ab (dR fun K hK=>?_);(repeat refine eV ?_);refine aa (hK _ (wK [1,2,3,4,16,17,18,19] ?_));clear hK K;refine ab (dI (fun hb=>?_) (fun hb=>?_))
 ·have hvn:v < N.ends.length:=by simp at hb; omega
  refine af ?_;show DW _ _ _ _ _;refine ab (ac ?_);refine ab (dR fun K hK=>?_);(repeat refine eV ?_);refine aa (hK _ (wK [1,2,3,4,5,6,16,17,18] ?_));clear hK K;refine ab ?_;refine ab (dR fun K hK=>?_);(repeat refine eV ?_);refine aa (hK _ (wK [1,2,3,4,5,16,17,18,23,24,25] ?_));clear hK K;refine ac ?_;refine ax (X:=Nat) (fun i=>i ≤ (gl N.ends v).length) (fun i=>[(25,.c (.p (.int .i64 i)))]) (fun i=>[((4,0),⟨some 31,[.sl true 95 1 ((i8 N.ends v i).map (esC 97)),.sl true 3 1 ((pq N v).ids.map iC),.sl true 3 1 ((pq N v).inputs.map iC)]⟩)]) (fun i=>(gl N.ends v).length - i) 0 (Nat.zero_le _) (by first | rfl | (simp only [ae,pZ,simprocAttr,Int.natCast_zero] <;> rfl)) ?_;rintro i hi;intro E hE;simp only [ae,pZ,simprocAttr] at hE;subst hE;have hdv:=hdg v hvn;refine ab (dR fun K hK=>?_);(repeat refine eV ?_);refine aa (hK _ (wK [1,2,3,4,5,16,17,18,23,24,25,26] ?_));clear hK K;refine ab (dI (fun hb=>?_) (fun hb=>?_))
  ·have hil:i < (gl N.ends v).length:=by simp at hb; omega
   have hr:=hrg v i hvn hil;have hl1:=kc N.ends v i;have hlo:=L8 hvn hi;have hhi:=L9 hvn hi;refine af ?_;show DW _ _ _ _ _;refine ab (ac ?_);refine ab (dR fun K hK=>?_);(repeat refine eV ?_);refine aa (hK _ (wK [1,2,3,4,5,8,16,17,18,23,24,25] ?_));clear hK K;have dX:=And.intro dX (And.intro @buDoubleSt9.eq_def (And.intro @ef (And.intro @jr (And.intro @hl1 (And.intro @hlo (And.intro @List.length_append.{0} @List.length_modify.{0}))))));refine ab (cm buDoubleSt9 (fun j r=>match j with | _=>True) fun K hK=>?_);(repeat refine dV ?_);have dK:=And.intro @jb @mu;refine ak (hK _ (au [1,2,3,4,5,8,16,17,18,23,24,25] ?_));clear hK K;have hnx:=U0 hvn hil rfl
   generalize hx:v + N.ends.length = x at *
   have hx':((v:Int) + (N.ends.length:Int)) = (x:Int):=by omega
   have hls:∀ A,x < ((i8 N.ends v i).set v A).length:=fun A=>by rw [List.length_set,hl1]; omega
   have hrw:∀ A t2,cg (((i8 N.ends v i).set v A).map (esC t2)) x 0 = some (.sl true t2 2 ((gl (i8 N.ends v i) x).map eC)):=fun A t2=>by rw [ef (hls A),E9 (by omega)]
   have hrm:∀ A t2 y,cg ((((i8 N.ends v i).set v A).map (esC t2)).modify x fun row=>row.modify 0 fun _=>y) x 0 = some y:=fun A t2 y=>jr (hls A);have dX:=And.intro dX (And.intro @buDoubleSt10.eq_def (And.intro @hx' (And.intro @hrw (And.intro @hrm (And.intro @hl1 (And.intro @hhi (And.intro @List.length_append.{0} (And.intro @List.length_modify.{0} @List.length_set.{0}))))))));refine cm buDoubleSt10 (fun j r=>match j with | _=>True) fun K hK=>?_;(repeat refine dV ?_);have dK:=And.intro @jb (And.intro @mu (And.intro @E9 @hnx));refine ak (hK _ (au [1,2,3,4,5,16,17,18,23,24,25] ?_));clear hK K;refine dR fun K hK=>?_;(repeat refine eV ?_);have dK:=@bj;refine aa (hK _ ?_);clear hK K;show ∃ x,_ ∧ _ ∧ Weak _ _;refine ⟨i + 1,?_,?_,ay [1,2,3,4,5,16,17,18,23,24,25]⟩
   ·omega
   ·omega
  ·have hil:i = (gl N.ends v).length:=by simp at hb; omega
   have hl2:(pq N v).inputs.length = 2 * N.ends.length:=C6 N v;have hfull:i8 N.ends v i = (pq N (v + 1)).ends:=by rw [hil]; exact Q0
   have hnx:=Q1 hvn rfl;have hids:(pq N v).ids = (pq N (v + 1)).ids:=rfl;refine an ?_;refine bd [1,2,3,4,5,16,17,18] (by simp only [ae,pZ,simprocAttr,hfull]; exact rfl) ?_;have dX:=And.intro dX (@buDoubleSt12.eq_def);refine ab (cm buDoubleSt12 (fun j r=>match j with | _=>True) fun K hK=>?_);(repeat refine dV ?_);have dK:=@lv;refine ak (hK _ (au [1,2,3,4,5,16,17,18] ?_));clear hK K
   generalize hx:v + N.ends.length = x at *
   have hx':((v:Int) + (N.ends.length:Int)) = (x:Int):=by omega
   have hri:∀ c,cg (((pq N v).inputs.set v c).map iC) x 0 = some (.p (.int .i64 (gi ((pq N v).inputs.set v c) x))):=fun c=>cf (by rw [List.length_set,hl2]; omega);have dX:=And.intro dX (And.intro @buDoubleSt13.eq_def (And.intro @hx' (And.intro @hri @List.length_set.{0})));refine cm buDoubleSt13 (fun j r=>match j with | _=>True) fun K hK=>?_;(repeat refine dV ?_);have dK:=And.intro @lv (And.intro @hnx @hids);refine ak (hK _ (au [1,2,3,4,16,17,18] ?_));clear hK K;refine dR fun K hK=>?_;(repeat refine eV ?_);have dK:=@bj;refine aa (hK _ ?_);clear hK K;show ∃ x,_ ∧ _ ∧ Weak _ _;refine ⟨v + 1,?_,?_,ay [1,2,3,4,16,17,18]⟩
   ·omega
   ·omega
 ·have hvn:v = N.ends.length:=by simp at hb; omega
  subst hvn;refine an ?_;refine wK [2,4] ?_;refine ab (dR fun K hK=>?_);(repeat refine eV ?_);refine aa (hK _ (wK [2] ?_));clear hK K;exact ai (am Tryz.results115 (.one (.cell 2 _ _ _ _ rfl rfl aq rfl rfl (ao _))) (by decide) rfl)
end
section
open Go Go.RowKit
def lg (L:List (List Int)) (k:Nat):List Int:=L.getD k []
theorem Cm {L:List (List Int)} {k:Nat} (h:k < L.length):lg L k = L[k]:=by simp [lg,h]
theorem Wf (t:TypeId) (L:List (List Int)) (l:List Int):L.map (lsC t) ++ [[C.sl true t 1 (l.map iC)]] = (L ++ [l]).map (lsC t):=by simp [lsC]
theorem ek {t:TypeId} {L:List (List Int)} {k:Nat} (h:k < L.length):cg (L.map (lsC t)) k 0 = some (.sl true t 1 ((lg L k).map iC)):=bi.2 ⟨_,by rw [List.getElem?_map,List.getElem?_eq_getElem h]; rfl,by rw [lsC,Cm h]; rfl⟩
theorem Zf {t:TypeId} {L:List (List Int)} {k:Nat} {y:C} (h:k < L.length):cg ((L.map (lsC t)).modify k fun row=>row.modify 0 fun _=>y) k 0 = some y:=bi.2 ⟨[y],by simp [List.getElem?_modify,List.getElem?_eq_getElem h,lsC],rfl⟩
theorem W0 {t:TypeId} {L:List (List Int)} {k:Nat} {l:List Int}:((((L.map (lsC t)).modify k fun row=>row.modify 0 fun _=>C.hole).modify k fun row=>row.modify 0 fun _=>C.hole).modify k fun row=>row.modify 0 fun _=>C.sl true t 1 (l.map iC)) = (L.set k l).map (lsC t):=by
 apply List.ext_getElem?;intro i;simp only [List.getElem?_modify,List.getElem?_map,List.getElem?_set]
 by_cases h:k = i
 ·subst h
  by_cases hk:k < L.length
  ·simp [List.getElem?_eq_getElem hk,hk,lsC]
  ·simp [List.getElem?_eq_none (Nat.le_of_not_lt hk),hk]
 ·simp [h]
theorem Yx (t:TypeId) (n:Nat):List.replicate n [C.sl true t 1 []] = (List.replicate n []).map (lsC t):=by simp [lsC]
def Ko (n:Nat) (f:Nat → List Int):List (List Int):=(List.range n).map f
theorem Hz (n:Nat) (f:Nat → List Int):(Ko n f).length = n:=by simp [Ko]
theorem Gp {n k:Nat} {f:Nat → List Int} (h:k < n):lg (Ko n f) k = f k:=by rw [Cm (by rw [Hz]; exact h)]; simp [Ko]
theorem df {t:TypeId} {L:List (List Int)} {k:Nat} (h:k < L.length):(L.map (lsC t)).getD k [] = [.sl true t 1 ((lg L k).map iC)]:=by
 rw [List.getD_eq_getElem?_getD,List.getElem?_map,List.getElem?_eq_getElem h,Cm h]; rfl
def Env.ros (e:Env) (r:Nat) (c:C):Env:={ e with s:=fun x=>if x = r then .c c else e.s x }
theorem Ii (e:Env) (r:Nat) (c:C):(e.ros r c).n = e.n:=rfl
theorem En (e:Env) (r:Nat) (c:C) (x:Nat):(e.ros r c).s x = if x = r then .c c else e.s x:=rfl
theorem wj (e:Env) (r:Nat) (c:C) (k:bh):(e.ros r c).con k = e.con k:=rfl
theorem wh (e:Env) (r:Nat) (c:C) (x:Nat):(e.ros r c).gen x = e.gen x:=rfl
theorem ny (e:Env) (r:Nat) (c:C) (x:Nat):(e.ros r c).dirty x = e.dirty x:=rfl
theorem R3 {e:Env} {r:Nat} {t:TypeId} {k:Nat} {rows:List (List C)} (hs:e.s r = .own false 1) (hc:e.con (r,0) = some ⟨none,[.sl false t k rows]⟩):Weak e (e.ros r (.sl false t k rows)):=fun w0 a w ⟨val,S,h⟩=>by
 refine ⟨val,S,h.sz,h.defers,h.mem,fun x=>?_,h.frm,h.low,h.rts,h.sS⟩;rw [En];split
 ·rename_i hx
  subst hx;have h1:=h.slot x;rw [hs] at h1;obtain ⟨-,-,hv⟩:=h1;have h2:=h.mem.node (x,0) _ [(0,0)] _ hc (dv _ 0);show RO w S _ _;rw [hv];exact h2
 ·exact h.slot x
theorem C4 {P:Program} {w0:Base} {y:Code} {Q:Exit → Env → Prop} {n:Nat} {Sl:List (Nat × AV)} {Cn:List (bh × Con)} {sl2:List (Nat × AV)} {cn2:List (bh × Con)} (r:Nat) (ks:List Nat) {o:Bool} {t:TypeId} {k:Nat} {rows:List (List C)}
 (hs:(mkE n Sl Cn).s r = .own false 1) (hc:(mkE n Sl Cn).con (r,0) = some ⟨none,[.sl o t k rows]⟩)
 (h2:keepE (((mkE n Sl Cn).frz r).ros r (.sl false t k rows)) ks = mkE n sl2 cn2) (hd:DW P w0 y Q (mkE n sl2 cn2)):DW P w0 y Q (mkE n Sl Cn) :=
 gz (gf _ r) (gz (R3 (by rw [Ys]; exact hs) (by rw [Ay,if_pos rfl,hc]; rfl)) (gz (ce _ ks) (by rw [h2]; exact hd)))
section
variable {P:Program} {w0:Base} {e e1:Env} {a:Act} {w:World} {val:Val} {S:Nat → Prop}
theorem StV.less (h:StV w0 e a w val S) (hn:e1.n = e.n) (hs:e1.s = e.s) (hc:e1.con = e.con) (hg:e1.gen = e.gen) (hf:∀ r g p,e1.fresh r g p → e.fresh r g p):StV w0 e1 a w val S :=
 { sz:=by rw [hn]; exact h.sz
   defers:=h.defers
   mem:=by rw [hc]; exact h.mem
   slot:=fun s=>by
    have h1:=h.slot s;rw [hs]
    cases hav:e.s s with
    | dead=>trivial
    | c x=>rw [hav] at h1; exact h1
    | agg xs=>rw [hav] at h1; exact h1
    | own ag n=>rw [hav] at h1; unfold SV; rw [hc]; exact h1
    | box=>rw [hav] at h1; unfold SV; rw [hc]; exact h1
    | ref r g p ag n=>rw [hav] at h1; exact ⟨by rw [hg]; exact h1.1,fun h2=>h1.2 fun i hi=>hf _ _ _ (h2 i hi)⟩
    | ptr r g p k=>rw [hav] at h1; exact ⟨by rw [hg]; exact h1.1,fun h2=>h1.2 (hf _ _ _ h2)⟩
    | rp xs=>rw [hav] at h1; exact h1
    | fn g css=>rw [hav] at h1; exact h1
    | clo g rs =>
     rw [hav] at h1;obtain ⟨vs,k1,k2,k3⟩:=h1;exact ⟨vs,k1,k2,fun i r g' hi=>⟨by rw [hg]; exact (k3 i r g' hi).1,fun h2=>(k3 i r g' hi).2 (hf _ _ _ h2)⟩⟩
    | tup ts=>rw [hav] at h1; unfold SV; rw [hc]; exact h1
   frm:=h.frm
   low:=by rw [hc]; exact h.low
   rts:=fun s hs'=>h.rts s (by rw [← hn]; exact hs')
   sS:=h.sS }
end
def ym (T k m j:Nat):List (List C):=List.replicate j [.sl true T k []] ++ List.replicate (m - j) [.p (.slice none 0 0)]
theorem Wy {T k m j:Nat} (h:j < m):cg (ym T k m j) j 0 = some (.p (.slice none 0 0)):=bi.2 ⟨[.p (.slice none 0 0)],by
 unfold ym
 rw [List.getElem?_append_right (by simp),List.length_replicate,Nat.sub_self,List.getElem?_replicate,if_pos (by omega)],rfl⟩
theorem P9 {T k m j:Nat} (h:j < m):((ym T k m j).modify j fun row=>row.modify 0 fun _=>C.sl true T k []) = ym T k m (j + 1):=by
 apply List.ext_getElem?;intro i;unfold ym;rw [List.getElem?_modify]
 by_cases hi:j = i
 ·subst hi;rw [List.getElem?_append_right (by simp),List.length_replicate,Nat.sub_self,List.getElem?_replicate,if_pos (by omega),List.getElem?_append_left (by simp),List.getElem?_replicate,if_pos (by omega)];simp
 ·rcases Nat.lt_or_ge i j with h1 | h1
  ·rw [List.getElem?_append_left (by simp; omega),List.getElem?_append_left (by simp; omega),List.getElem?_replicate,List.getElem?_replicate,if_pos h1,if_pos (by omega)];simp [hi]
  ·rw [List.getElem?_append_right (by simp; omega),List.getElem?_append_right (by simp; omega),List.getElem?_replicate,List.getElem?_replicate,List.length_replicate,List.length_replicate]
   by_cases h2:i < m
   ·rw [if_pos (by omega),if_pos (by omega)]; simp [hi]
   ·rw [if_neg (by omega),if_neg (by omega)]; simp
theorem Ca {e:Env} {r i T k t2 m:Nat} {cn:Con} (hk:0 < k) (hc:e.con (r,0) = some cn) (hl:cn.xs[i]? = some (.sl true t2 1 (List.replicate m [.p (.slice none 0 0)]))):∀ j,j ≤ m → ∃ E,Weak e E ∧ E.n = e.n ∧ E.s = e.s ∧ (∀ key,key ≠ (r,0) → E.con key = e.con key) ∧ E.con (r,0) = some { cn with xs:=puts cn.xs (.sl true t2 1 (ym T k m j)) [(0,i)] } ∧ E.gen = e.gen ∧ (∀ x,x ≠ r → E.dirty x = e.dirty x) ∧ (∀ d ∈ E.dirty r,d ∈ e.dirty r ∨ [(0,i)] <+: d)
 | 0,_=>by
  refine ⟨e,Weak.refl e,rfl,rfl,fun _ _=>rfl,?_,rfl,fun _ _=>rfl,fun _ h=>.inl h⟩;rw [hc]
  have:puts cn.xs (.sl true t2 1 (ym T k m 0)) [(0,i)] = cn.xs:=by
   apply List.ext_getElem?;intro q;simp only [puts,List.getElem?_modify,C.put,ym,List.replicate_zero,List.nil_append,Nat.sub_zero]
   by_cases hq:i = q
   ·subst hq; rw [hl]; simp
   ·simp [hq]
  rw [this]
 | j + 1,hj=>by
  obtain ⟨E,g1,g2,g3,g4,g5,g6,g7,g8⟩:=Ca hk hc hl j (by omega)
  have hlook:look (puts cn.xs (.sl true t2 1 (ym T k m j)) [(0,i)]) [(0,i)] = some (.sl true t2 1 (ym T k m j)):=by
   rw [dv]; simp [puts,List.getElem?_modify,hl,C.put]
  have hl2:look (puts cn.xs (.sl true t2 1 (ym T k m j)) [(0,i)]) ([(0,i)] ++ [(j,0)]) = some (.p (.slice none 0 0)) :=
   (gx (by simp)).2 ⟨t2,1,_,hlook,Wy (by omega)⟩
  have hw:=Bd (T:=T) (k:=k) g5 hl2 hk;refine ⟨_,g1.trans hw,g2,g3,fun key hkey=>by simp [Env.put,hkey,g4 key hkey],?_,g6,fun x hx=>by simp [Env.put,hx,g7 x hx],fun d hd=>?_⟩
  ·simp only [Env.put,if_true,g5,Option.map_some]
   congr 2
   apply List.ext_getElem?;intro q;simp only [puts,List.cons_append,List.nil_append,List.getElem?_modify]
   by_cases hq:i = q
   ·subst hq;rw [hl];simp only [if_true,Option.map_eq_map,Option.map_some,C.put,Option.some.injEq,C.sl.injEq,true_and];exact P9 (by omega)
   ·simp [hq]
  ·simp only [Env.put,if_true] at hd
   rcases List.mem_cons.1 hd with rfl | hd
   ·exact .inr ⟨[(j,0)],rfl⟩
   ·exact g8 d hd
theorem Pb {e:Env} {r i T k t2 m:Nat} {cn:Con} (hk:0 < k) (hc:e.con (r,0) = some cn) (hl:cn.xs[i]? = some (.sl true t2 1 (List.replicate m [.p (.slice none 0 0)]))):Weak e (e.put r [(0,i)] (.sl true t2 1 (List.replicate m [.sl true T k []]))):=by
 obtain ⟨E,g1,g2,g3,g4,g5,g6,g7,g8⟩:=Ca (T:=T) hk hc hl m (Nat.le_refl _);refine g1.trans fun w0 a w ⟨val,S,h⟩=>⟨val,S,h.less g2.symm g3.symm ?_ g6.symm ?_⟩
 ·funext key
  by_cases hkey:key = (r,0)
  ·subst hkey;rw [g5];have:ym T k m m = List.replicate m [.sl true T k []]:=by simp [ym]
   rw [this];simp [Env.put,hc]
  ·rw [g4 key hkey]; simp [Env.put,hkey]
 ·rintro x g p ⟨hx1,hx2⟩;refine ⟨by rw [g6]; exact hx1,fun dd hd=>?_⟩
  by_cases hxr:x = r
  ·subst hxr
   rcases g8 dd hd with h3 | h3
   ·exact hx2 dd (by simp [Env.put,h3])
   ·intro h4;exact hx2 [(0,i)] (by simp [Env.put]) (h3.trans h4)
  ·rw [g7 x hxr] at hd;exact hx2 dd (by simp [Env.put,hxr,hd])
theorem Xo {P:Program} {w0:Base} {y:Code} {Q:Exit → Env → Prop} {n:Nat} {Sl:List (Nat × AV)} {Cn:List (bh × Con)} {sl2:List (Nat × AV)} {cn2:List (bh × Con)} (r i T k:Nat) (hk:0 < k) {t2 m:Nat} {cn:Con} (h:(mkE n Sl Cn).con (r,0) = some cn) (hl:cn.xs[i]? = some (.sl true t2 1 (List.replicate m [.p (.slice none 0 0)]))) (ks:List Nat)
 (h2:keepE ((mkE n Sl Cn).put r [(0,i)] (.sl true t2 1 (List.replicate m [.sl true T k []]))) ks = mkE n sl2 cn2) (hd:DW P w0 y Q (mkE n sl2 cn2)):DW P w0 y Q (mkE n Sl Cn) :=
 gz (Pb hk h hl) (gz (ce _ ks) (by rw [h2]; exact hd))
theorem jbk (n:Nat):fc [.slice none 0 0] n = List.replicate n [C.p (.slice none 0 0)]:=by simp [fc]
end
end Go.Proofs.YtfknckinfcicbaaGreat

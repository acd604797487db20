/- Parts of the proof. -/
import Derived.Test.YtfknckinfcicbaaGreatCJn19
import Derived.Test.YtfknckinfcicbaaGreatCDt
set_option linter.unusedSimpArgs false
set_option linter.unusedVariables false
namespace Go.Proofs.YtfknckinfcicbaaGreat
section
set_option maxHeartbeats 0
set_option maxRecDepth 8000
open Go Go.RowKit
def pk (N:Net) (v i:Nat):Bool:=decide ((v:Int) < (gp (gl N.ends v) i).1) || (decide ((v:Int) = (gp (gl N.ends v) i).1) && decide ((i:Int) ≤ (gp (gl N.ends v) i).2))
def zBEd11:=PLift.up (And.intro ee (And.intro aq (And.intro bn (And.intro b7 (And.intro @if_pos.{1} (And.intro cd (And.intro @cf (And.intro ch (And.intro bb (And.intro @cx (And.intro @cw (And.intro @List.take_succ_cons.{0} (And.intro @List.take_zero.{0} @trivial)))))))))))))
theorem Uv:type_of% zBEd11.down:=zBEd11.down
theorem Qf (f:NF) (N:Net) (v i:Nat) (hv:v < N.ends.length) (hi:i < (gl N.ends v).length):DCalls Tryz.prog 158 [.agg (be f N),.c (.p (.int .i64 v)),.c (.p (.int .i64 i))] (fun r=>r = [.c (.p (.bool (pk N v i)))]):=by
 refine aw Tryz.func158 rfl (by rw [Tryz.ntmps158]; simp) fun w0=>?_;rw [Tryz.ntmps158];have dX:=Uv;simp only [bw,bf,Arg.av,be,b9,ints,ends];refine ab (dR fun K hK=>?_);(repeat refine eV ?_);refine aa (hK _ (wK [1,2,3] ?_));clear hK K;refine ab (dR fun K hK=>?_);(repeat refine eV ?_);refine aa (hK _ (wK [1,2,7] ?_));clear hK K;refine ab (dR fun K hK=>?_);(repeat refine eV ?_);obtain h | h:=Bool.eq_false_or_eq_true (decide ((v:Int) < (gp (gl N.ends v) i).1))
 ·have dX:=And.intro dX (@h);(repeat refine eV ?_);refine aa (hK _ (wK [6] ?_));clear hK K;exact ai (am Tryz.results158 (.one (.plain _ _ rfl)) (by decide) (by rw [pk,h]; rfl))
 ·have dX:=And.intro dX (@h);(repeat refine eV ?_);obtain h2 | h2:=Bool.eq_false_or_eq_true ((v:Int) == (gp (gl N.ends v) i).1)
  ·have dX:=And.intro dX (And.intro @h @h2);(repeat refine eV ?_);refine aa (hK _ (wK [6] ?_));clear hK K;exact ai (am Tryz.results158 (.one (.plain _ _ rfl)) (by decide) (by rw [pk,h,show decide ((v:Int) = (gp (gl N.ends v) i).1) = true by simpa using h2]; rfl))
  ·have dX:=And.intro dX (And.intro @h @h2);(repeat refine eV ?_);refine aa (hK _ (wK [6] ?_));clear hK K;exact ai (am Tryz.results158 (.one (.plain _ _ rfl)) (by decide) (by rw [pk,h,show decide ((v:Int) = (gp (gl N.ends v) i).1) = false by simpa using h2]; rfl))
def C1 (N:Net) (v i:Nat):List (List Int):=if pk N v i = true then [[(v:Int),(i:Int),(gp (gl N.ends v) i).1,(gp (gl N.ends v) i).2]] else []
def iv (N:Net) (v m:Nat):List (List Int):=(List.range m).flatMap (C1 N v)
def jh (N:Net) (m:Nat):List (List Int):=(List.range m).flatMap fun v=>iv N v (gl N.ends v).length
theorem Jq (N:Net) (v:Nat):iv N v 0 = []:=rfl
theorem mv (N:Net) (v m:Nat):iv N v (m + 1) = iv N v m ++ C1 N v m:=by simp [iv,List.range_succ]
theorem vg (N:Net) (m:Nat):jh N (m + 1) = jh N m ++ iv N m (gl N.ends m).length:=by simp [jh,List.range_succ]
theorem C2 (N:Net) (v m:Nat):(iv N v m).length ≤ m:=by
 induction m with
 | zero=>simp [iv]
 | succ m ih =>
  rw [mv,List.length_append];have:(C1 N v m).length ≤ 1:=by unfold C1; split <;> simp
  omega
theorem Fh (N:Net):∀ m,m ≤ N.ends.length → (∀ v,v < N.ends.length → (gl N.ends v).length ≤ 1000) → (jh N m).length ≤ m * 1000
 | 0,_,_=>by simp [jh]
 | m + 1,h,hd=>by
  rw [vg,List.length_append,Nat.add_mul];have h1:=Fh N m (by omega) hd;have h2:=C2 N m (gl N.ends m).length;have h3:=hd m (by omega);omega
theorem Sk (t:TypeId) (L:List (List Int)) (a b c d:Int):L.map (lsC t) ++ [[C.sl true t 1 [[C.p (.int .i64 a)],[C.p (.int .i64 b)],[C.p (.int .i64 c)],[C.p (.int .i64 d)]]]] = (L ++ [[a,b,c,d]]).map (lsC t):=by simp [lsC,iC]
theorem Ex (f:NF) (N:Net) (hl:N.ends.length ≤ 1000) (hd:∀ v,v < N.ends.length → (gl N.ends v).length ≤ 1000):DCalls Tryz.prog 150 [.agg (be f N)] (fun r=>r = [.own false [.sl true 26 1 ((jh N N.ends.length).map (lsC 3))]]):=by
 refine aw Tryz.func150 rfl (by rw [Tryz.ntmps150]; simp) fun w0=>?_;rw [Tryz.ntmps150];have dX:=Uv;simp only [bw,bf,Arg.av,be,b9,ints,ends];refine ab (dR fun K hK=>?_);(repeat refine eV ?_);refine aa (hK _ (wK [1] ?_));clear hK K;refine ab (dR fun K hK=>?_);(repeat refine eV ?_);refine aa (hK _ (wK [1,3] ?_));clear hK K;refine ab ?_;refine ab (dR fun K hK=>?_);(repeat refine eV ?_);refine aa (hK _ (wK [1,3,9,10,11] ?_));clear hK K;refine ac ?_;refine pm 3 26 1 (by decide) (by simp only [ae,pZ,simprocAttr]) [1,3,9,10,11] (by simp only [ae,pZ,simprocAttr]; exact rfl) ?_;refine ax (X:=Nat) (fun k=>k ≤ N.ends.length) (fun k=>[(11,.c (.p (.int .i64 k)))]) (fun k=>[((3,0),⟨none,[.sl true 26 1 ((jh N k).map (lsC 3))]⟩)]) (fun k=>N.ends.length - k) 0 (Nat.zero_le _) (by first | rfl | (simp only [ae,pZ,simprocAttr,Int.natCast_zero] <;> rfl)) ?_;rintro k hk;intro E hE;simp only [ae,pZ,simprocAttr] at hE;subst hE;refine ab (dR fun K hK=>?_);(repeat refine eV ?_);refine aa (hK _ (wK [1,3,9,10,11,12] ?_));clear hK K;refine ab (dI (fun hb=>?_) (fun hb=>?_))
 ·refine af ?_;show DW _ _ _ _ _;have hk1:k < N.ends.length:=by simpa using hb
  refine ab (ac ?_);refine ab (dR fun K hK=>?_);(repeat refine eV ?_);refine aa (hK _ (wK [1,3,4,5,9,10,11] ?_));clear hK K;refine ab (dR fun K hK=>?_);(repeat refine eV ?_);refine aa (hK _ (wK [1,3,4,9,10,11,16,17,18] ?_));clear hK K;refine ac ?_;have hdk:=hd k hk1;refine ax (X:=Nat) (fun i=>i ≤ (gl N.ends k).length) (fun i=>[(18,.c (.p (.int .i64 i)))]) (fun i=>[((3,0),⟨none,[.sl true 26 1 ((jh N k ++ iv N k i).map (lsC 3))]⟩)]) (fun i=>(gl N.ends k).length - i) 0 (Nat.zero_le _) (by first | rfl | (simp only [ae,pZ,simprocAttr,Int.natCast_zero,Jq] <;> rfl)) ?_;rintro i hi;intro E hE;simp only [ae,pZ,simprocAttr] at hE;subst hE;refine ab (dR fun K hK=>?_);(repeat refine eV ?_);refine aa (hK _ (wK [1,3,4,9,10,11,16,17,18,19] ?_));clear hK K;refine ab (dI (fun hb=>?_) (fun hb=>?_))
  ·refine af ?_;show DW _ _ _ _ _;have hi1:i < (gl N.ends k).length:=by simpa using hb
   have hlen:(jh N k ++ iv N k i).length ≤ 2000000:=by
    rw [List.length_append];have h1:=Fh N k (by omega) hd;have h2:=C2 N k i;have h3:k * 1000 ≤ 1000 * 1000:=Nat.mul_le_mul_right 1000 (by omega);omega
   refine ab (ac ?_);refine ab (dR fun K hK=>?_);(repeat refine eV ?_);refine aa (hK _ (wK [1,3,4,6,7,9,10,11,16,17,18] ?_));clear hK K;refine ab (dR fun K hK=>?_);(repeat refine eV ?_);refine cL rfl ⟨rfl,_,rfl⟩ (by omega) (by first | exact Zt) (Qf ⟨false,f.t1,f.o2,f.t2,false,f.t3,false,f.t4⟩ N k i hk1 hi1) ?_;rintro _ rfl;(repeat refine eV ?_);refine aa (hK _ (wK [1,3,4,6,7,9,10,11,16,17,18,26] ?_));clear hK K;refine dI ?_ ?_<;>intro hb
   ·have he:iv N k (i + 1) = iv N k i ++ [[(k:Int),(i:Int),(gp (gl N.ends k) i).1,(gp (gl N.ends k) i).2]]:=by rw [mv,C1,if_pos hb]
    refine dR fun K hK=>?_;(repeat refine eV ?_);have dK:=@je;refine aa (hK _ (au [1,3,4,9,10,11,16,17,18] ?_));clear hK K;refine dR fun K hK=>?_;(repeat refine eV ?_);have dK:=And.intro @bj (And.intro @he (And.intro @Sk @List.append_assoc.{0}));refine aa (hK _ ?_);clear hK K;show ∃ x,_ ∧ _ ∧ Weak _ _;refine ⟨i + 1,?_,?_,ay [1,3,4,9,10,11,16,17,18]⟩
    ·omega
    ·omega
   ·have he:iv N k (i + 1) = iv N k i:=by rw [mv,C1,if_neg (by rw [hb]; simp),List.append_nil]
    refine af ?_;show DW _ _ _ _ _;refine dR fun K hK=>?_;(repeat refine eV ?_);have dK:=And.intro @bj @he;refine aa (hK _ ?_);clear hK K;show ∃ x,_ ∧ _ ∧ Weak _ _;refine ⟨i + 1,?_,?_,ay [1,3,4,9,10,11,16,17,18]⟩
    ·omega
    ·omega
  ·have hi2:i = (gl N.ends k).length:=by
    have:¬ i < (gl N.ends k).length:=by simpa using hb
    omega
   have he:=vg N k;rw [← hi2] at he;refine an ?_;refine wK [1,3,9,10,11] ?_;refine dR fun K hK=>?_;(repeat refine eV ?_);have dK:=And.intro @bj @he;refine aa (hK _ ?_);clear hK K;show ∃ x,_ ∧ _ ∧ Weak _ _;refine ⟨k + 1,?_,?_,ay [1,3,9,10,11]⟩
   ·omega
   ·omega
 ·have hk2:k = N.ends.length:=by
   have:¬ k < N.ends.length:=by simpa using hb
   omega
  refine an ?_;refine wK [3] ?_;refine ab (dR fun K hK=>?_);(repeat refine eV ?_);refine aa (hK _ (wK [2] ?_));clear hK K;exact ai (am Tryz.results150 (.one (.own _ _ _ _ rfl rfl (own1 (q8 _ _ _)))) (by decide) (by rw [hk2]))
end
section
open Go Go.RowKit
def zBDlo1:=PLift.up (And.intro bb (And.intro ch (And.intro @if_pos.{1} (And.intro @cf @trivial))))
theorem jaw:type_of% zBDlo1.down:=zBDlo1.down
set_option maxRecDepth 8000 in
set_option maxHeartbeats 0 in
theorem Xa (o:Bool) (t:TypeId) (xs:List Int) (hn:xs.length ≤ 1000000):DCalls Tryz.prog 104 [.c (.sl o t 1 (xs.map iC))] (fun r=>r = [.own false [.sl true 3 1 (xs.map iC)]]):=by
 refine aw Tryz.func104 rfl (by rw [Tryz.ntmps104]; simp) fun w0=>?_;rw [Tryz.ntmps104];have dX:=jaw;simp only [bw,bf,Arg.av,be,b9,ints,ends];refine ab (dR fun K hK=>?_);(repeat refine eV ?_);refine aa (hK _ (wK [0] ?_));clear hK K;refine ab (dR fun K hK=>?_);(repeat refine eV ?_);refine aa (hK _ (wK [2] ?_));clear hK K;exact ai (am Tryz.results104 (.one (.own _ _ _ _ rfl rfl (own1 (cq _ _)))) (by decide) rfl)
end
section
open Go Go.RowKit
def mst (a b:Int):Int:=if a > b then a else b
def du (xs:List Int):Int:=xs.foldl (fun n k=>mst n (k + 1)) 0
theorem Ob {m:Int}:∀ (xs:List Int) (a:Int),(∀ x ∈ xs,0 ≤ x ∧ x < m) → 0 ≤ a ∧ a ≤ m → 0 ≤ xs.foldl (fun n k=>mst n (k + 1)) a ∧ xs.foldl (fun n k=>mst n (k + 1)) a ≤ m
 | [],a,_,ha=>ha
 | x :: xs,a,h,ha=>by
  rw [List.foldl_cons];refine Ob xs _ (fun y hy=>h y (by simp [hy])) ?_;have:=h x (by simp);unfold mst;split <;> omega
theorem Qh {xs:List Int} {i:Nat} (h:i < xs.length):du (xs.take (i + 1)) = mst (du (xs.take i)) (gi xs i + 1):=by
 unfold du;rw [List.take_add_one,List.foldl_append,List.getElem?_eq_getElem h,bt h]; rfl
def zBDw11:=PLift.up (trivial)
theorem Uw:type_of% zBDw11.down:=zBDw11.down
theorem T8 (a b:Int):DCalls Tryz.prog 86 [.c (.p (.int .i64 a)),.c (.p (.int .i64 b))] (fun r=>r = [.c (.p (.int .i64 (mst a b)))]):=by
 refine aw Tryz.func86 rfl (by rw [Tryz.ntmps86]; simp) fun w0=>?_;rw [Tryz.ntmps86];have dX:=Uw;simp only [bw,bf,Arg.av];refine ab (dR fun K hK=>?_);(repeat refine eV ?_);refine aa (hK _ (wK [0,1] ?_));clear hK K;refine ab ?_;refine ab (dR fun K hK=>?_);(repeat refine eV ?_);refine aa (hK _ (wK [0,1,7] ?_));clear hK K;refine dI ?_ ?_<;>intro hb
 ·refine ab (dR fun K hK=>?_);(repeat refine eV ?_);refine aa (hK _ (wK [4] ?_));clear hK K;exact ai (am Tryz.results86 (.one (.plain _ _ rfl)) (by decide) (by rw [mst,if_pos (by simpa using hb)]))
 ·refine af ?_;show DW _ _ _ _ _;refine ab (dR fun K hK=>?_);(repeat refine eV ?_);refine aa (hK _ (wK [4] ?_));clear hK K;exact ai (am Tryz.results86 (.one (.plain _ _ rfl)) (by decide) (by rw [mst,if_neg (by simpa using hb)]))
set_option maxRecDepth 8000 in
set_option maxHeartbeats 0 in
theorem vx (o:Bool) (tt:TypeId) (xs:List Int) (hx:∀ x ∈ xs,0 ≤ x ∧ x < 1000000) (hlen:xs.length < 1000000):DCalls Tryz.prog 81 [.c (ints o tt xs)] (fun r=>r = [.c (.p (.int .i64 (du xs)))]):=by
 refine aw Tryz.func81 rfl (by rw [Tryz.ntmps81]; simp) fun w0=>?_;rw [Tryz.ntmps81];have dX:=Uw;simp only [bw,bf,Arg.av,ints];refine ab (dR fun K hK=>?_);(repeat refine eV ?_);refine aa (hK _ (wK [0] ?_));clear hK K;refine ab (dR fun K hK=>?_);(repeat refine eV ?_);refine aa (hK _ (wK [0,3] ?_));clear hK K;refine ab ?_;refine ab (dR fun K hK=>?_)
 repeat (apply cr; (focus exact rfl); (focus (simp (disch:=first | omega | (intros; contradiction)) only [ae,bu,pZ,simprocAttr ,bb]; exact rfl)))
 refine aa (hK _ (wK [3,6,7,8] ?_));clear hK K;refine ac ?_;refine Ow (X:=Nat × Int) (fun x=>x.1 ≤ xs.length ∧ x.2 = du (xs.take x.1)) (fun x=>mkE 18 [(3,.c (.p (.int .i64 x.2))),(6,.c (.sl o tt 1 (xs.map iC))),(7,.c (.p (.int .i64 xs.length))),(8,.c (.p (.int .i64 x.1)))] []) (fun x=>xs.length - x.1) (0,0) ⟨by simp,rfl⟩ (Weak.of_eq rfl) ?_;rintro ⟨i,a⟩ ⟨hi,ha⟩;dsimp only at hi ha ⊢;refine ab (dR fun K hK=>?_);(repeat refine eV ?_);refine aa (hK _ (wK [3,6,7,8,9] ?_));clear hK K;refine ab (dI (fun hb=>?_) (fun hb=>?_))
 ·refine af ?_;show DW _ _ _ _ _;have hi1:i < xs.length:=by simpa using hb
  have hva:=Ob (m:=1000000) (xs.take i) 0 (fun x hx'=>hx x (List.mem_of_mem_take hx')) (by omega);rw [show (xs.take i).foldl (fun n k=>mst n (k + 1)) 0 = a from ha.symm] at hva;have hxi:=hx (gi xs i) (by rw [bt hi1]; exact List.getElem_mem _);refine ab (ac ?_);refine ab (dR fun K hK=>?_)
  repeat (apply cr; (focus exact rfl); (focus (simp (disch:=first | omega | (intros; contradiction)) only [ae,bu,pZ,simprocAttr ,bb,ch,if_pos,bo]; exact rfl)))
  refine aa (hK _ (wK [3,5,6,7,8] ?_));clear hK K;refine dR fun K hK=>?_;(repeat refine eV ?_);refine cL rfl ⟨rfl,_,rfl⟩ (by omega) (by first | exact jcf) (T8 _ _) ?_;rintro _ rfl;(repeat refine eV ?_);refine aa (hK _ (wK [3,6,7,8] ?_));clear hK K;refine dR fun K hK=>?_;(repeat refine eV ?_);have dK:=@bj;refine aa (hK _ ?_);clear hK K;show ∃ x,_ ∧ _ ∧ Weak _ _;refine ⟨(i + 1,mst a (gi xs i + 1)),?_,?_,ay [3,6,7,8]⟩
  ·refine ⟨hi1,?_⟩;rw [Qh hi1,← ha]
  ·dsimp only; omega
 ·have hi2:i = xs.length:=by
   have:¬ i < xs.length:=by simpa using hb
   omega
  refine an ?_;refine wK [3] ?_;refine ab (dR fun K hK=>?_);(repeat refine eV ?_);refine aa (hK _ (wK [2] ?_));clear hK K;exact ai (am Tryz.results81 (.one (.plain _ _ rfl)) (by decide) (by rw [ha,hi2,List.take_length]))
end
end Go.Proofs.YtfknckinfcicbaaGreat

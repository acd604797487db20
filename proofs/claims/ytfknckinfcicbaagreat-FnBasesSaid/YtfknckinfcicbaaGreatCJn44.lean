/- Parts of the proof. -/
import Derived.Test.YtfknckinfcicbaaGreatCJn41
import Derived.Test.YtfknckinfcicbaaGreatCJn42
import Derived.Test.YtfknckinfcicbaaGreatCJn40
import Derived.Test.YtfknckinfcicbaaGreatCJn35
import Derived.Test.YtfknckinfcicbaaGreatCJn21
import Derived.Test.YtfknckinfcicbaaGreatCJn33
import Derived.Test.YtfknckinfcicbaaGreatCJn39
import Derived.Test.YtfknckinfcicbaaGreatCJn32
import Derived.Test.YtfknckinfcicbaaGreatCJn26
import Derived.Test.YtfknckinfcicbaaGreatCJn13
import Derived.Test.YtfknckinfcicbaaGreatCJn7
import Derived.Test.YtfknckinfcicbaaGreatCDix
import Derived.Test.YtfknckinfcicbaaGreatCIm1
import Derived.Test.YtfknckinfcicbaaGreatCJn9
import Derived.Test.YtfknckinfcicbaaGreatCJn31
import Derived.Test.YtfknckinfcicbaaGreatCJn28
import Derived.Test.YtfknckinfcicbaaGreatCDt
import Derived.Test.YtfknckinfcicbaaGreatCJn43
import Derived.Test.YtfknckinfcicbaaGreatCDbf
import Derived.Test.YtfknckinfcicbaaGreatCLfn
set_option linter.unusedSimpArgs false
set_option linter.unusedVariables false
namespace Go.Proofs.YtfknckinfcicbaaGreat
section
set_option maxHeartbeats 0
set_option maxRecDepth 8000
open Go Go.RowKit
def viTwSt1:Nat → Stat
 | 0=>⟨[1],[(1,1)],[1],[3],[],[]⟩
 | 1=>⟨[1],[(1,1)],[1],[4],[],[]⟩
 | 2=>⟨[4],[],[],[5],[],[]⟩
 | 3=>⟨[3,5],[],[],[6],[],[]⟩
 | 4=>⟨[6],[],[6],[2],[(6,1)],[]⟩
 | _=>⟨[],[],[],[],[],[]⟩
def zBLd11:=PLift.up (And.intro aq (And.intro bb (And.intro ch (And.intro @if_pos.{1} (And.intro @cf (And.intro @bo (And.intro @a7 (And.intro @ba @trivial))))))))
theorem Uu:type_of% zBLd11.down:=zBLd11.down
theorem Ed (f:NF) (N:Net) (d:Nat) (hf:Fair N) (hin:N.inputs.length = N.ends.length) (hl:N.ends.length ≤ 1000) (hp:0 < N.ends.length) (hd:IsSd N d):DCalls Tryz.prog 120 [.agg (be f N)] (fun r=>r = [.own false [.sl true 3 1 ((bv N d).map iC)]]):=by
 have hdl:=hd.lt (hf.rng hp);refine aw Tryz.func120 rfl (by rw [Tryz.ntmps120]; simp) fun w0=>?_;rw [Tryz.ntmps120];have dX:=Uu;simp only [bw,bf,Arg.av,be,b9,ints,ends];refine ab (dR fun K hK=>?_);(repeat refine eV ?_);refine aa (hK _ (wK [1] ?_));clear hK K;have dX:=And.intro dX (@viTwSt1.eq_def);refine ab (cm viTwSt1 (fun j r=>match j with | 2=>r = [.c (.p (.int .i64 d))] | 3=>r = [.own false [.sl true 3 1 ((bv N d).map iC)]] | _=>True) fun K hK=>?_);(repeat refine dV ?_);have dX:=And.intro dX (@viTwSt1.eq_def);refine dcF rfl ⟨rfl,_,rfl⟩ (by omega) (by first | exact Ts | exact N0) (Kl ⟨false,f.t1,f.o2,f.t2,false,f.t3,false,f.t4⟩ N d hf hin (by omega) (by omega) hd) ?_;rintro _ rfl;(repeat refine dV ?_);have dX:=And.intro dX (@viTwSt1.eq_def);refine dcF rfl ⟨rfl,_,rfl⟩ (by omega) (by first | exact Ts | exact N0) (qs ⟨false,f.t1,f.o2,f.t2,false,f.t3,false,f.t4⟩ N d hf hin (by omega) (by omega) (by omega)) ?_;rintro _ rfl;(repeat refine dV ?_);refine ak (hK _ (wK [2] ?_));clear hK K;exact ai (am Tryz.results120 (.one (.own _ _ _ _ rfl rfl (own1 (cq _ _)))) (by decide) rfl)
theorem nl (f:NF) (N:Net) (d:Nat) (hg:bg N = true) (hd:IsSd N d):DCalls Tryz.prog 32 [.agg (be f N)] (fun r=>r = [.own false [.sl true 3 1 ((bv N d).map iC)],.c (.p (.bool true))]):=by
 have hn:=jf hg;obtain ⟨-,-,hids,-⟩:=ep hg;refine aw Tryz.func32 rfl (by rw [Tryz.ntmps32]; simp) fun w0=>?_;rw [Tryz.ntmps32];have dX:=Uu;simp only [bw,bf,Arg.av,be,b9,ints,ends];refine ab (dR fun K hK=>?_);(repeat refine eV ?_);refine aa (hK _ (wK [1] ?_));clear hK K;refine ab ?_;refine ab (dR fun K hK=>?_);(repeat refine eV ?_);refine cL rfl ⟨rfl,_,rfl⟩ (by omega) (by first | exact n9) (em ⟨false,f.t1,f.o2,f.t2,false,f.t3,false,f.t4⟩ N (by omega)) ?_;rintro _ rfl;(repeat refine eV ?_);have dK:=@hg;refine aa (hK _ (au [1,8] ?_));clear hK K;refine dI ?_ ?_<;>intro hb
 ·cases hb
 ·refine af ?_;show DW _ _ _ _ _;refine ab (dR fun K hK=>?_);(repeat refine eV ?_);refine cL rfl ⟨rfl,_,rfl⟩ (by omega) (by first | exact jck) (Sh ⟨false,f.t1,f.o2,f.t2,false,f.t3,false,f.t4⟩ N d (jv hg) (gd hg) (by omega) (by omega) hd) ?_;rintro _ rfl;(repeat refine eV ?_);refine aa (hK _ (wK [5] ?_));clear hK K;refine ab (dR fun K hK=>?_);(repeat refine eV ?_);refine aa (hK _ (wK [2,3] ?_));clear hK K;exact ai (am Tryz.results32 (.two (.own _ _ _ _ rfl rfl (own1 (cq _ _))) (.plain _ _ rfl)) (by decide) rfl)
theorem Dj {ws L:List Int}:∀ j,(fq ws L j).length ≤ L.length + j
 | 0=>Nat.le_refl _
 | j + 1=>by
  have:=Dj (ws:=ws) (L:=L) j;rw [fq];split
  ·omega
  ·rw [List.length_append,List.length_singleton]; omega
end
section
set_option maxHeartbeats 0
set_option maxRecDepth 8000
open Go Go.RowKit
def fbT (cls:List Int) (K v:Nat):List (List Int):=Ko K (fbL cls v)
theorem mt (cls:List Int) (K v:Nat):(fbT cls K v).length = K:=Hz _ _
theorem Um (cls:List Int) (K:Nat):List.replicate K ([]:List Int) = fbT cls K 0:=by
 unfold fbT Ko;apply List.ext_getElem
 ·simp
 ·intro i h1 h2;simp only [List.getElem_replicate,List.getElem_map];rfl
theorem Un {cls:List Int} {K v w:Nat} (hv:gi cls v = w) (hw:w < K):(fbT cls K v).set w (fbL cls v w ++ [(v:Int)]) = fbT cls K (v + 1):=by
 unfold fbT Ko;apply List.ext_getElem
 ·simp
 ·intro i h1 h2;simp only [List.getElem_set,List.getElem_map,List.getElem_range];rw [xc,hv]
  by_cases h:w = i
  ·subst h; simp
  ·rw [if_neg h,if_neg (by omega)]
theorem Gx (cls:List Int) (n c:Nat):(fbL cls n c).length ≤ n:=by
 have:=List.length_filter_le (fun v:Int=>gi cls v.toNat == (c:Int)) (cp n);rw [dl] at this;exact this
def zBLd21:=PLift.up (And.intro aq (And.intro @netO.eq_1 (And.intro @cf (And.intro bn (And.intro b7 (And.intro cd (And.intro ch (And.intro bb (And.intro ee (And.intro @if_pos.{1} (And.intro @cx (And.intro @cw (And.intro @bo (And.intro @a7 (And.intro @ba (And.intro @df (And.intro @ek @trivial)))))))))))))))))
theorem Ut:type_of% zBLd21.down:=zBLd21.down
theorem Cy (o:Bool) (t:TypeId) (cls:List Int) (K:Nat) (hl:cls.length ≤ 100000) (hK:K ≤ 100000) (hc:∀ v,v < cls.length → 0 ≤ gi cls v ∧ gi cls v < K):DCalls Tryz.prog 119 [.c (.sl o t 1 (cls.map iC)),.c (.p (.int .i64 K))] (fun r=>r = [.own false [.sl true 26 1 ((fbT cls K cls.length).map (lsC 3))]]):=by
 have hz:=Um cls K;refine aw Tryz.func119 rfl (by rw [Tryz.ntmps119]; simp) fun w0=>?_;rw [Tryz.ntmps119];have dX:=Ut;simp only [bw,bf,Arg.av,be,b9,ints,ends];refine ab (dR fun K hK=>?_);(repeat refine eV ?_);refine aa (hK _ (wK [0,1] ?_));clear hK K;have dX:=And.intro dX (And.intro @jbk @Int.toNat_natCast);refine ab (dR fun K hK=>?_);(repeat refine eV ?_);have dK:=@jbk;refine aa (hK _ (au [0,5] ?_));clear hK K;refine Xo 5 0 3 1 (by decide) rfl rfl [0,5] (by simp only [ae,pZ,simprocAttr,List.modify_zero_cons,List.modify_succ_cons,Yx]; exact rfl) ?_;refine ab ?_;refine ab (dR fun K hK=>?_);(repeat refine eV ?_);refine aa (hK _ (wK [5,10,11,12] ?_));clear hK K;refine ac ?_;refine ax (X:=Nat) (fun v=>v ≤ cls.length) (fun v=>[(12,.c (.p (.int .i64 v)))]) (fun v=>[((5,0),⟨none,[.sl true 26 1 ((fbT cls K v).map (lsC 3))]⟩)]) (fun v=>cls.length - v) 0 (Nat.zero_le _) (by first | rfl | (simp only [ae,pZ,simprocAttr,Int.natCast_zero,← hz] <;> rfl)) ?_;rintro v hv;intro E hE;simp only [ae,pZ,simprocAttr] at hE;subst hE;have hTl:=mt cls K v;refine ab (dR fun K hK=>?_);(repeat refine eV ?_);refine aa (hK _ (wK [5,10,11,12,13] ?_));clear hK K;refine ab (dI (fun hb=>?_) (fun hb=>?_))
 ·have hv1:v < cls.length:=by simpa using hb
  obtain ⟨c0,c1⟩:=hc v hv1;obtain ⟨w,hw⟩:=Int.eq_ofNat_of_zero_le c0;have hwK:w < K:=by omega
  have hst:=Un hw hwK;have hlg:lg (fbT cls K v) w = fbL cls v w:=Gp hwK;have hfl:=Gx cls v w;obtain ⟨T,hT⟩:∃ T,T = fbT cls K v:=⟨_,rfl⟩;rw [← hT] at hTl hst hlg ⊢;refine af ?_;show DW _ _ _ _ _;refine ab (ac ?_);have dX:=And.intro dX (@hw);refine ab (dR fun K hK=>?_);(repeat refine eV ?_);have dK:=@hw;refine aa (hK _ (au [5,6,7,10,11,12] ?_));clear hK K;have dX:=And.intro dX (And.intro @Int.toNat_natCast (And.intro @Zf (And.intro @hlg @List.length_modify.{0})));refine dR fun K hK=>?_;(repeat refine eV ?_);have dK:=And.intro @il (And.intro @W0 @hst);refine aa (hK _ (au [5,10,11,12] ?_));clear hK K;refine dR fun K hK=>?_;(repeat refine eV ?_);have dK:=@bj;refine aa (hK _ ?_);clear hK K;show ∃ x,_ ∧ _ ∧ Weak _ _;refine ⟨v + 1,?_,?_,ay [5,10,11,12]⟩
  ·omega
  ·omega
 ·have hv2:v = cls.length:=by
   have:¬ v < cls.length:=by simpa using hb
   omega
  refine an ?_;refine bd [5] (by simp only [ae,pZ,simprocAttr]; exact rfl) ?_;rw [hv2];refine ab (dR fun K hK=>?_);(repeat refine eV ?_);refine aa (hK _ (wK [4] ?_));clear hK K;exact ai (am Tryz.results119 (.one (.own _ _ _ _ rfl rfl (own1 (q8 _ _ _)))) (by decide) rfl)
def ipSt6:Nat → Stat
 | 0=>⟨[4],[(4,1)],[],[35],[],[]⟩
 | 1=>⟨[35],[(4,1)],[],[36],[],[]⟩
 | 2=>⟨[2],[],[],[37],[],[]⟩
 | 3=>⟨[7],[],[],[38],[],[]⟩
 | 4=>⟨[37,38],[],[],[39],[],[]⟩
 | 5=>⟨[39],[],[],[40],[],[]⟩
 | 6=>⟨[36,40],[],[],[41],[],[]⟩
 | 7=>⟨[41],[],[],[42],[],[]⟩
 | 8=>⟨[42],[],[],[9],[],[]⟩
 | _=>⟨[],[],[],[],[],[]⟩
def ipSt7:Nat → Stat
 | 0=>⟨[8],[],[],[43],[],[]⟩
 | 1=>⟨[43],[],[],[44],[],[]⟩
 | 2=>⟨[9],[],[],[45],[],[]⟩
 | 3=>⟨[45],[],[],[46],[],[]⟩
 | 4=>⟨[44,46],[],[],[47],[],[]⟩
 | 5=>⟨[47],[],[],[48],[],[]⟩
 | 6=>⟨[3,48],[(3,1)],[],[49],[],[]⟩
 | 7=>⟨[49,48],[(3,1)],[],[50],[],[]⟩
 | 8=>⟨[7,48],[],[],[51],[],[]⟩
 | 9=>⟨[50,51,48],[],[],[52],[],[]⟩
 | 10=>⟨[52,48],[],[],[53],[],[]⟩
 | 11=>⟨[4,48],[(4,1)],[],[54],[],[]⟩
 | 12=>⟨[54,48],[(4,1)],[],[55],[],[]⟩
 | 13=>⟨[2,48],[],[],[56],[],[]⟩
 | 14=>⟨[7,48],[],[],[57],[],[]⟩
 | 15=>⟨[56,57,48],[],[],[58],[],[]⟩
 | 16=>⟨[58,48],[],[],[59],[],[]⟩
 | 17=>⟨[55,59,48],[],[],[60],[],[]⟩
 | 18=>⟨[60,48],[],[],[61],[],[]⟩
 | 19=>⟨[53,61,48],[],[],[62],[],[]⟩
 | 20=>⟨[48,62],[],[],[63],[],[]⟩
 | _=>⟨[],[],[],[],[],[]⟩
def Lr:Nat → Stat
 | 0=>⟨[9],[],[],[71],[],[]⟩
 | 1=>⟨[10],[],[],[72],[],[]⟩
 | 2=>⟨[71,72],[],[],[73],[],[]⟩
 | 3=>⟨[73],[],[],[74],[],[]⟩
 | 4=>⟨[2],[],[],[75],[],[]⟩
 | 5=>⟨[11],[(11,1)],[],[76],[],[]⟩
 | 6=>⟨[76],[(11,1)],[],[77],[],[]⟩
 | 7=>⟨[75,77],[],[],[78],[],[]⟩
 | 8=>⟨[78],[],[],[79],[],[]⟩
 | 9=>⟨[11],[(11,1)],[],[80],[],[]⟩
 | 10=>⟨[80],[(11,1)],[],[81],[],[]⟩
 | 11=>⟨[79,81],[],[],[82],[],[]⟩
 | 12=>⟨[74,82],[],[],[83],[],[]⟩
 | _=>⟨[],[],[],[],[],[]⟩
theorem I9 (f g:NF) (A B:Net) (o:Bool) (t:TypeId) (m:List Int) (hg:bg A = true) (hB:B.inputs.length = B.ends.length) (hBl:B.ends.length ≤ 100000) (h:pmB A B m = true):DCalls Tryz.prog 74 [.agg (be f A),.agg (be g B),.c (.sl o t 1 (m.map iC))] (fun r=>r = [.c (.p (.bool true))]):=by
 obtain ⟨hs,hn,hids,hdg⟩:=ep hg;have hin:=gd hg;unfold pmB at h;rw [Bool.and_eq_true,Bool.and_eq_true,Bool.not_eq_true'] at h;obtain ⟨⟨hm0,hm1⟩,hm2⟩:=h;have hml:m.length = A.ends.length:=by simpa using hm0
 have hpm:∀ v,v < A.ends.length → pmV A B m v = false:=fun v hv=>by
  cases h5:pmV A B m v with
  | false=>rfl
  | true =>
   have:=r7.2 ⟨v,hv,h5⟩;rw [hm2] at this; cases this
 have hmr:∀ v,v < A.ends.length → ∃ u:Nat,gi m v = (u:Int) ∧ u < B.ends.length:=fun v hv=>by
  have h5:=List.all_eq_true.1 hm1 (gi m v) (by rw [bt (by omega)]; exact List.getElem_mem (by omega));have:=db.1 h5;exact ⟨(gi m v).toNat,by omega,by omega⟩
 refine aw Tryz.func74 rfl (by rw [Tryz.ntmps74]; simp) fun w0=>?_;rw [Tryz.ntmps74];have dX:=Ut;simp only [bw,bf,Arg.av,be,b9,ints,ends];refine ab (dR fun K hK=>?_);(repeat refine eV ?_);refine aa (hK _ (wK [2,3,4] ?_));clear hK K;refine ab ?_;have dX:=And.intro dX (And.intro @hml @bne_self_eq_false.{0});refine ab (dR fun K hK=>?_);(repeat refine eV ?_);have dX:=And.intro dX (And.intro @hml @bne_self_eq_false.{0});refine cgF rfl rfl ⟨rfl,_,rfl⟩ (by omega) (by first | exact Nz) (my o t m 0 ((B.ends.length:Int) - 1) (by omega)) ?_;rintro _ rfl;(repeat refine eV ?_);have dX:=And.intro dX (And.intro @hml (And.intro @bne_self_eq_false.{0} @hm1));(repeat refine eV ?_);have dK:=And.intro @hml (And.intro @bne_self_eq_false.{0} @hm1);refine aa (hK _ (au [2,3,4,26] ?_));clear hK K;refine dI ?_ ?_<;>intro hb
 ·cases hb
 ·refine af ?_;show DW _ _ _ _ _;refine ab ?_;refine ab (dR fun K hK=>?_);(repeat refine eV ?_);refine aa (hK _ (wK [2,3,4,28,29,30] ?_));clear hK K;refine ac ?_;refine ax (X:=Nat) (fun v=>v ≤ A.ends.length) (fun v=>[(30,.c (.p (.int .i64 v)))]) (fun v=>[]) (fun v=>A.ends.length - v) 0 (Nat.zero_le _) (by first | rfl | (simp only [ae,pZ,simprocAttr,Int.natCast_zero] <;> rfl)) ?_;rintro v hv;intro E hE;simp only [ae,pZ,simprocAttr] at hE;subst hE;refine ab (dR fun K hK=>?_);(repeat refine eV ?_);refine aa (hK _ (wK [2,3,4,28,29,30,31] ?_));clear hK K;refine ab (dI (fun hb=>?_) (fun hb=>?_))
  ·have hv1:v < A.ends.length:=by simpa using hb
   obtain ⟨u,hu,hul⟩:=hmr v hv1;have hp:=o9.1 (hpm v hv1);rw [hu,Int.toNat_natCast] at hp;obtain ⟨p1,p2,p3⟩:=hp;have hdv:=hdg v;refine af ?_;show DW _ _ _ _ _;refine ab (ac ?_);have dX:=And.intro dX (@Int.toNat_natCast);refine ab (dR fun K hK=>?_);(repeat refine eV ?_);refine aa (hK _ (wK [2,3,4,7,8,28,29,30] ?_));clear hK K;have dX:=And.intro dX (And.intro @ipSt6.eq_def (And.intro @hu @Int.toNat_natCast));refine ab (cm ipSt6 (fun j r=>match j with | _=>True) fun K hK=>?_);(repeat refine dV ?_);have dK:=@hu;refine ak (hK _ (au [2,3,4,7,8,9,28,29,30] ?_));clear hK K;refine ab ?_;have dX:=And.intro dX (And.intro @ipSt7.eq_def (And.intro @hu (And.intro (Eq.symm p1) (And.intro (Eq.symm p2) (And.intro @bne_self_eq_false.{0} @Int.toNat_natCast)))));refine ab (cm ipSt7 (fun j r=>match j with | _=>True) fun K hK=>?_);(repeat refine dV ?_);have dK:=And.intro @hu (And.intro (Eq.symm p1) (And.intro (Eq.symm p2) @bne_self_eq_false.{0}));refine ak (hK _ (au [2,3,4,8,9,28,29,30,63] ?_));clear hK K;refine dI ?_ ?_<;>intro hb
   ·cases hb
   ·refine af ?_;show DW _ _ _ _ _;have dX:=And.intro dX (@Int.toNat_natCast);refine ab (dR fun K hK=>?_);(repeat refine eV ?_);refine aa (hK _ (wK [2,3,4,9,28,29,30,64,65,66] ?_));clear hK K;refine ac ?_;refine ax (X:=Nat) (fun i=>i ≤ (gl A.ends v).length) (fun i=>[(66,.c (.p (.int .i64 i)))]) (fun i=>[]) (fun i=>(gl A.ends v).length - i) 0 (Nat.zero_le _) (by first | rfl | (simp only [ae,pZ,simprocAttr,Int.natCast_zero] <;> rfl)) ?_;rintro i hi;intro E hE;simp only [ae,pZ,simprocAttr] at hE;subst hE;refine ab (dR fun K hK=>?_);(repeat refine eV ?_);refine aa (hK _ (wK [2,3,4,9,28,29,30,64,65,66,67] ?_));clear hK K;refine ab (dI (fun hb=>?_) (fun hb=>?_))
    ·have hi1:i < (gl A.ends v).length:=by simpa using hb
     have hi2:i < (gl B.ends u).length:=by omega
     obtain ⟨q1,q2,q3,q4,q5⟩:=d9 hs hv1 hi1;have hpi:=p3 i hi1;have hq1:(gp (gl B.ends u) i).1 = gi m (nd A v i):=by rw [hpi]; rfl
     have hq2:(gp (gl B.ends u) i).2 = (gp (gl A.ends v) i).2:=by rw [hpi]
     refine af ?_;show DW _ _ _ _ _;refine ab (ac ?_);have dX:=And.intro dX (@Int.toNat_natCast);refine ab (dR fun K hK=>?_);(repeat refine eV ?_);refine aa (hK _ (wK [2,3,4,9,10,11,28,29,30,64,65,66] ?_));clear hK K;refine ab (cm Lr (fun j r=>match j with | _=>True) fun K hK=>?_)
     repeat (apply A6; (focus exact rfl); (focus simp (disch:=first | omega | (intros; contradiction)) only [ae,bu,qo,pZ,simprocAttr,aq,netO,cf,bn,b7,cd,ch,bb,ee,if_pos,cx,cw,bo,a7,ba,df,ek ,Lr,q5,hq1,hq2,hml,C0,bne_self_eq_false,beq_self_eq_true,Bool.and_self,Bool.not_true,Int.toNat_natCast]); (focus (simp (disch:=first | omega | (intros; contradiction)) only [ae,bu,pZ,simprocAttr,aq,netO,cf,bn,b7,cd,ch,bb,ee,if_pos,cx,cw,bo,a7,ba,df,ek ,Lr,q5,hq1,hq2,hml,C0,bne_self_eq_false,beq_self_eq_true,Bool.and_self,Bool.not_true,Int.toNat_natCast]; exact rfl)))
     have dK:=And.intro @q5 (And.intro @hq1 (And.intro @hq2 (And.intro @bne_self_eq_false.{0} @beq_self_eq_true.{0})));refine ak (hK _ (au [2,3,4,9,28,29,30,64,65,66,83] ?_));clear hK K;refine dI ?_ ?_<;>intro hb
     ·cases hb
     ·refine af ?_;show DW _ _ _ _ _;refine dR fun K hK=>?_;(repeat refine eV ?_);have dK:=@bj;refine aa (hK _ ?_);clear hK K;show ∃ x,_ ∧ _ ∧ Weak _ _;refine ⟨i + 1,?_,?_,ay [2,3,4,9,28,29,30,64,65,66]⟩
      ·omega
      ·omega
    ·refine an ?_;refine bd [2,3,4,28,29,30] (by simp only [ae,pZ,simprocAttr]; exact rfl) ?_;refine dR fun K hK=>?_;(repeat refine eV ?_);have dK:=@bj;refine aa (hK _ ?_);clear hK K;show ∃ x,_ ∧ _ ∧ Weak _ _;refine ⟨v + 1,?_,?_,ay [2,3,4,28,29,30]⟩
     ·omega
     ·omega
  ·refine an ?_;refine bd [] (by simp only [ae,pZ,simprocAttr]; exact rfl) ?_;refine ab (dR fun K hK=>?_);(repeat refine eV ?_);refine aa (hK _ (wK [6] ?_));clear hK K;exact ai (am Tryz.results74 (.one (.plain _ _ rfl)) (by decide) rfl)
end
section
set_option maxHeartbeats 0
set_option maxRecDepth 8000
open Go Go.RowKit
def quSt10:Nat → Stat
 | 0=>⟨[6],[(6,1)],[],[46],[],[]⟩
 | 1=>⟨[46],[(6,1)],[],[47],[],[]⟩
 | 2=>⟨[2],[(2,1)],[],[48],[],[]⟩
 | 3=>⟨[48],[(2,1)],[],[49],[],[]⟩
 | 4=>⟨[8],[],[],[50],[],[]⟩
 | 5=>⟨[50],[],[],[51],[],[]⟩
 | 6=>⟨[51],[],[],[52],[],[]⟩
 | 7=>⟨[49,52],[],[],[53],[],[]⟩
 | 8=>⟨[53],[],[],[54],[],[]⟩
 | 9=>⟨[54],[],[],[55],[],[]⟩
 | 10=>⟨[47,55],[(6,1),(55,1)],[6,55],[56],[(6,1)],[]⟩
 | 11=>⟨[6],[(6,1)],[],[57],[],[]⟩
 | 12=>⟨[57,56],[(6,1)],[56],[],[(6,1),(56,1)],[]⟩
 | _=>⟨[],[],[],[],[],[]⟩
def quSt11:Nat → Stat
 | 0=>⟨[2],[(2,1)],[],[58],[],[]⟩
 | 1=>⟨[58],[(2,1)],[],[59],[],[]⟩
 | 2=>⟨[8],[],[],[60],[],[]⟩
 | 3=>⟨[60],[],[],[61],[],[]⟩
 | 4=>⟨[61],[],[],[62],[],[]⟩
 | 5=>⟨[59,62],[],[],[63],[],[]⟩
 | 6=>⟨[63],[],[],[64],[],[]⟩
 | 7=>⟨[64],[],[],[65],[],[]⟩
 | 8=>⟨[],[],[],[66],[],[]⟩
 | _=>⟨[],[],[],[],[],[]⟩
def quSt14:Nat → Stat
 | 0=>⟨[6],[(6,1)],[],[70],[],[]⟩
 | 1=>⟨[70],[(6,1)],[],[71],[],[]⟩
 | 2=>⟨[7],[],[],[72],[],[]⟩
 | 3=>⟨[6],[(6,1)],[],[73],[],[]⟩
 | 4=>⟨[73],[(6,1)],[],[74],[],[]⟩
 | 5=>⟨[7],[],[],[75],[],[]⟩
 | 6=>⟨[74,75],[(6,1)],[],[76],[],[]⟩
 | 7=>⟨[76],[(6,2)],[],[77],[],[]⟩
 | 8=>⟨[1],[],[],[78],[],[]⟩
 | 9=>⟨[10],[(10,1)],[],[79],[],[]⟩
 | 10=>⟨[79],[(10,1)],[],[80],[],[]⟩
 | 11=>⟨[78,80],[],[],[81],[],[]⟩
 | 12=>⟨[81],[],[],[82],[],[]⟩
 | 13=>⟨[10],[(10,1)],[],[83],[],[]⟩
 | 14=>⟨[83],[(10,1)],[],[84],[],[]⟩
 | 15=>⟨[82,84],[],[],[85],[],[]⟩
 | 16=>⟨[85],[],[],[86],[],[]⟩
 | 17=>⟨[77,86],[(6,2),(86,1)],[6,86],[87],[(6,2)],[]⟩
 | 18=>⟨[71,72],[(6,1)],[],[88],[],[]⟩
 | 19=>⟨[88,87],[(6,2)],[87],[],[(6,2),(87,1)],[]⟩
 | _=>⟨[],[],[],[],[],[]⟩
def quE (N:Net) (cls:List Int) (c:Nat):List (List (Int × Int)):=(List.range c).map (qsE N cls)
def quI (N:Net) (cls:List Int) (c:Nat):List Int:=(List.range c).map fun c=>gi N.inputs (rpF cls N.ends.length c)
theorem Nl (N:Net) (cls:List Int) (c:Nat):(quE N cls c).length = c:=by simp [quE]
theorem Ar (N:Net) (cls:List Int) (c:Nat):(quI N cls c).length = c:=by simp [quI]
theorem Im (N:Net) (cls:List Int) (c:Nat):quE N cls (c + 1) = quE N cls c ++ [qsE N cls c]:=by simp [quE,List.range_succ]
theorem Il (N:Net) (cls:List Int) (c:Nat):quI N cls (c + 1) = quI N cls c ++ [gi N.inputs (rpF cls N.ends.length c)]:=by simp [quI,List.range_succ]
theorem Id {α:Type} (E:List α) (x y:α):(E ++ [x]).set E.length y = E ++ [y]:=by
 rw [List.set_append_right _ _ (Nat.le_refl _),Nat.sub_self]; rfl
theorem On (E:List (List (Int × Int))) (x:List (Int × Int)):gl (E ++ [x]) E.length = x:=by simp [gl]
def zBLd31:=PLift.up (And.intro aq (And.intro @cf (And.intro bn (And.intro b7 (And.intro cd (And.intro ch (And.intro bb (And.intro ee (And.intro @if_pos.{1} (And.intro @cx (And.intro @cw (And.intro @bo (And.intro @a7 (And.intro @ba (And.intro @df (And.intro @ek @trivial))))))))))))))))
theorem Us:type_of% zBLd31.down:=zBLd31.down
theorem K0 (f:NF) (N:Net) (o:Bool) (t:TypeId) (cls:List Int) (m1:Nat) (hg:bg N = true) (hcl:cls.length = N.ends.length) (hK0:0 < m1) (hK:m1 ≤ N.ends.length) (hmany:du cls = m1) (hc:∀ v,v < cls.length → 0 ≤ gi cls v ∧ gi cls v < m1) (hex:∀ c:Nat,c < m1 → ∃ u,u < N.ends.length ∧ gi cls u = (c:Int)) (hQ:bg (quN N cls m1) = true) (hM:pmB N (quN N cls m1) cls = true):DCalls Tryz.prog 72 [.agg (be f N),.c (.sl o t 1 (cls.map iC))] (fun r=>r = [.own true (netO (quN N cls m1)),.c (.p (.bool true))]):=by
 obtain ⟨hs,hn,hids,hdg⟩:=ep hg;have hin:=gd hg
 have hcw:(cls.all fun n=>inB n 0 ((N.ends.length:Int) - 1)) = true:=by
  rw [List.all_eq_true];intro x hx;obtain ⟨i,hi,rfl⟩:=List.getElem_of_mem hx;have:=hc i hi;rw [bt hi] at this;exact db.2 (by omega)
 have hcx:∀ x ∈ cls,0 ≤ x ∧ x < 1000000:=fun x hx=>by
  obtain ⟨i,hi,rfl⟩:=List.getElem_of_mem hx;have:=hc i hi;rw [bt hi] at this;omega
 have hqn:DCalls Tryz.prog 40 [.agg (netO (quN N cls m1))] (fun r=>r = [.c (.p (.bool true))]):=by
  have:=em NFo (quN N cls m1) (Nat.zero_le _);rw [hQ] at this;exact this
 have hqm:DCalls Tryz.prog 74 [.agg (be ⟨false,f.t1,f.o2,f.t2,false,f.t3,false,f.t4⟩ N),.agg (netO (quN N cls m1)),.c (.sl o t 1 (cls.map iC))] (fun r=>r = [.c (.p (.bool true))]) :=
  I9 ⟨false,f.t1,f.o2,f.t2,false,f.t3,false,f.t4⟩ NFo N (quN N cls m1) o t cls hg (by simp [quN]) (by simp [quN]; omega) hM
 refine aw Tryz.func72 rfl (by rw [Tryz.ntmps72]; simp) fun w0=>?_;rw [Tryz.ntmps72];have dX:=Us;simp only [bw,bf,Arg.av,be,b9,ints,ends];refine ab (dR fun K hK=>?_);(repeat refine eV ?_);refine aa (hK _ (wK [1,2,4] ?_));clear hK K;refine ab ?_;have dX:=And.intro dX (And.intro @hcl @bne_self_eq_false.{0});refine ab (dR fun K hK=>?_);(repeat refine eV ?_);have dX:=And.intro dX (And.intro @hcl @bne_self_eq_false.{0});refine cgF rfl rfl ⟨rfl,_,rfl⟩ (by omega) (by first | exact Nz) (my o t cls 0 ((N.ends.length:Int) - 1) (by omega)) ?_;rintro _ rfl;(repeat refine eV ?_);have dX:=And.intro dX (And.intro @hcl (And.intro @bne_self_eq_false.{0} @hcw));(repeat refine eV ?_);have dK:=And.intro @hcl (And.intro @bne_self_eq_false.{0} @hcw);refine aa (hK _ (au [1,2,4,25] ?_));clear hK K;refine dI ?_ ?_<;>intro hb
 ·cases hb
 ·refine af ?_;show DW _ _ _ _ _;refine ab (dR fun K hK=>?_);(repeat refine eV ?_);refine aa (hK _ (wK [1,2,4,6] ?_));clear hK K;refine az 6 0 95 1 (by decide) rfl rfl [1,2,4,6] (by simp only [ae,pZ,simprocAttr,List.modify_zero_cons,List.modify_succ_cons]; exact rfl) ?_;refine az 6 1 3 1 (by decide) rfl rfl [1,2,4,6] (by simp only [ae,pZ,simprocAttr,List.modify_zero_cons,List.modify_succ_cons]; exact rfl) ?_;refine az 6 2 3 1 (by decide) rfl rfl [1,2,4,6] (by simp only [ae,pZ,simprocAttr,List.modify_zero_cons,List.modify_succ_cons]; exact rfl) ?_;refine ab ?_;refine ab (dR fun K hK=>?_);(repeat refine eV ?_);refine cL rfl ⟨rfl,_,rfl⟩ (by omega) (by first | exact yp | exact l0) (lc o t cls (by omega) hcx) ?_;rintro _ rfl;(repeat refine eV ?_);have dX:=And.intro dX (@hmany);refine cL rfl ⟨rfl,_,rfl⟩ (by omega) (by first | exact yp | exact l0) (Cy o t cls m1 (by omega) (by omega) hc) ?_;rintro _ rfl;(repeat refine eV ?_);have dK:=@mt;refine aa (hK _ (au [1,2,4,6,30,31,32] ?_));clear hK K;refine C4 30 [1,2,4,6,30,31,32] rfl rfl (by simp only [ae,pZ,simprocAttr,Ii,En,wj,wh,ny]; exact rfl) ?_;have hTl:=mt cls m1 cls.length;have hTl2:=mt cls m1 N.ends.length;refine ac ?_;refine ax (X:=Nat) (fun c=>c ≤ m1) (fun c=>[(32,.c (.p (.int .i64 c)))]) (fun c=>[((6,0),⟨some 31,[.sl true 95 1 ((quE N cls c).map (esC 97)),.sl true 3 1 (([]:List Int).map iC),.sl true 3 1 ((quI N cls c).map iC)]⟩)]) (fun c=>m1 - c) 0 (Nat.zero_le _) (by first | rfl | (simp only [ae,pZ,simprocAttr,Int.natCast_zero] <;> rfl)) ?_;rintro c hc1;intro E hE;simp only [ae,pZ,simprocAttr] at hE;subst hE;have hEl:=Nl N cls c;have hIl:=Ar N cls c;have hEs:=Im N cls c;have hIs:=Il N cls c;obtain ⟨E,hE⟩:∃ E,E = quE N cls c:=⟨_,rfl⟩;obtain ⟨I,hI⟩:∃ I,I = quI N cls c:=⟨_,rfl⟩;rw [← hE] at hEl hEs ⊢;rw [← hI] at hIl hIs ⊢;refine ab (dR fun K hK=>?_);(repeat refine eV ?_);refine aa (hK _ (wK [1,2,4,6,30,31,32,33] ?_));clear hK K;refine ab (dI (fun hb=>?_) (fun hb=>?_))
  ·have hcK:c < m1:=by simpa using hb
   have hlg:lg (fbT cls m1 cls.length) c = fbL cls cls.length c:=Gp hcK;obtain ⟨r0,r1,r2,r3⟩:=ii (hex c hcK);obtain ⟨u,hu⟩:∃ u,u = rpF cls N.ends.length c:=⟨_,rfl⟩;rw [hcl] at hlg;have hFl:=Gx cls N.ends.length c;have hqs:qsE N cls c = (gl N.ends u).map fun e=>(gi cls e.1.toNat,e.2):=by rw [hu]; rfl
   rw [← hu] at r1 r2 r3 hIs;obtain ⟨F,hF⟩:∃ F,F = fbL cls N.ends.length c:=⟨_,rfl⟩;rw [← hF] at hlg r0 r3 hFl;have hF0:((F.length:Int) == 0) = false:=by rw [beq_eq_false_iff_ne]; omega
   have hui:u < N.inputs.length:=by omega
   have hdu:=hdg u;refine af ?_;show DW _ _ _ _ _;refine ab (ac ?_);have dX:=And.intro dX (And.intro @Int.toNat_natCast (And.intro @hcl @hlg));refine ab (dR fun K hK=>?_);(repeat refine eV ?_);have dK:=And.intro @hcl @hlg;refine aa (hK _ (au [1,2,4,6,7,8,30,31,32] ?_));clear hK K;refine ab ?_;have dX:=And.intro dX (@hF0);refine ab (dR fun K hK=>?_);(repeat refine eV ?_);have dK:=@hF0;refine aa (hK _ (au [1,2,4,6,7,8,30,31,32,39] ?_));clear hK K;refine dI ?_ ?_<;>intro hb
   ·cases hb
   ·refine af ?_;show DW _ _ _ _ _;refine ab (dR fun K hK=>?_);(repeat refine eV ?_);refine aa (hK _ (wK [1,2,4,6,7,8,30,31,32] ?_));clear hK K;refine su 6 [(0,0),(E.length,0)] 97 2 (by decide) (by simp only [ae,pZ,simprocAttr]; exact rfl) yr [1,2,4,6,7,8,30,31,32] (by simp only [ae,pZ,simprocAttr,je,List.modify_cons,List.modifyHead,sf]; exact rfl) ?_;have dX:=And.intro dX (And.intro @quSt10.eq_def (And.intro @r3 (And.intro @Int.toNat_natCast @a7)));refine ab (cm quSt10 (fun j r=>match j with | _=>True) fun K hK=>?_);(repeat refine dV ?_);have dK:=And.intro @r3 (And.intro @il (Eq.symm hIs));refine ak (hK _ (au [1,2,4,6,7,8,30,31,32] ?_));clear hK K;have dX:=And.intro dX (And.intro @quSt11.eq_def (And.intro @r3 (And.intro @Int.toNat_natCast @a7)));refine ab (cm quSt11 (fun j r=>match j with | _=>True) fun K hK=>?_);(repeat refine dV ?_);have dK:=@r3;refine ak (hK _ (au [1,2,4,6,7,30,31,32,64,65,66] ?_));clear hK K;have hI1:(quI N cls (c + 1)).length = c + 1:=Ar _ _ _;have h0:E ++ [[]] = E ++ [(qsE N cls c).take 0]:=by rw [List.take_zero]
    rw [h0];refine ac ?_;refine ax (X:=Nat) (fun i=>i ≤ (gl N.ends u).length) (fun i=>[(66,.c (.p (.int .i64 i)))]) (fun i=>[((6,0),⟨some 31,[.sl true 95 1 ((E ++ [(qsE N cls c).take i]).map (esC 97)),.sl true 3 1 (([]:List Int).map iC),.sl true 3 1 ((quI N cls (c + 1)).map iC)]⟩)]) (fun i=>(gl N.ends u).length - i) 0 (Nat.zero_le _) (by first | rfl | (simp only [ae,pZ,simprocAttr,Int.natCast_zero] <;> rfl)) ?_;rintro i hi;intro E hE;simp only [ae,pZ,simprocAttr] at hE;subst hE;have hgl2:gl (E ++ [(qsE N cls c).take i]) c = (qsE N cls c).take i:=by rw [← hEl]; exact On _ _
    have hset2:∀ X,(E ++ [(qsE N cls c).take i]).set c X = E ++ [X]:=fun X=>by rw [← hEl]; exact Id _ _ _
    have hl2:(E ++ [(qsE N cls c).take i]).length = c + 1:=by rw [List.length_append,hEl]; rfl
    have htl:((qsE N cls c).take i).length = i:=by rw [List.length_take,hqs,List.length_map]; omega
    obtain ⟨E2,hE2⟩:∃ E2,E2 = E ++ [(qsE N cls c).take i]:=⟨_,rfl⟩;rw [← hE2] at hgl2 hset2 hl2 ⊢;refine ab (dR fun K hK=>?_);(repeat refine eV ?_);refine aa (hK _ (wK [1,2,4,6,7,30,31,32,64,65,66,67] ?_));clear hK K;refine ab (dI (fun hb=>?_) (fun hb=>?_))
    ·have hi1:i < (gl N.ends u).length:=by simpa using hb
     obtain ⟨q1,q2,q3,q4,q5⟩:=d9 hs r1 hi1
     have htk:(qsE N cls c).take i ++ [(gi cls (nd N u i),(bk N u i:Int))] = (qsE N cls c).take (i + 1):=by
      rw [List.take_add_one,hqs];simp only [List.getElem?_map,List.getElem?_eq_getElem hi1,Option.map_some,Option.toList];rw [← gb hi1,q5];simp
     refine af ?_;show DW _ _ _ _ _;refine ab (ac ?_);have dX:=And.intro dX (And.intro @Int.toNat_natCast @q5);refine ab (dR fun K hK=>?_);(repeat refine eV ?_);have dK:=@q5;refine aa (hK _ (au [1,2,4,6,7,10,30,31,32,64,65,66] ?_));clear hK K;have dX:=And.intro dX (And.intro @quSt14.eq_def (And.intro @q5 (And.intro @hcl (And.intro @ef (And.intro @jr (And.intro @hl2 (And.intro @hgl2 (And.intro @htl (And.intro @Int.toNat_natCast (And.intro @List.length_append.{0} @List.length_modify.{0}))))))))));refine cm quSt14 (fun j r=>match j with | _=>True) fun K hK=>?_;(repeat refine dV ?_);have dK:=And.intro @q5 (And.intro @jb (And.intro @mu (And.intro @htk @hset2)));refine ak (hK _ (au [1,2,4,6,7,30,31,32,64,65,66] ?_));clear hK K;refine dR fun K hK=>?_;(repeat refine eV ?_);have dK:=@bj;refine aa (hK _ ?_);clear hK K;show ∃ x,_ ∧ _ ∧ Weak _ _;refine ⟨i + 1,?_,?_,ay [1,2,4,6,7,30,31,32,64,65,66]⟩
     ·omega
     ·omega
    ·have hi2:i = (qsE N cls c).length:=by
      have:¬ i < (gl N.ends u).length:=by simpa using hb
      rw [hqs,List.length_map];omega
     have hEf:E2 = quE N cls (c + 1):=by rw [hE2,hEs,hi2,List.take_length]
     rw [hEf];refine an ?_;refine bd [1,2,4,6,30,31,32] (by simp only [ae,pZ,simprocAttr]; exact rfl) ?_;refine dR fun K hK=>?_;(repeat refine eV ?_);have dK:=@bj;refine aa (hK _ ?_);clear hK K;show ∃ x,_ ∧ _ ∧ Weak _ _;refine ⟨c + 1,?_,?_,ay [1,2,4,6,30,31,32]⟩
     ·omega
     ·omega
  ·have hc2:c = m1:=by
    have:¬ c < m1:=by simpa using hb
    omega
   have hEq:E = (quN N cls m1).ends:=by rw [hE,hc2]; rfl
   have hIq:I = (quN N cls m1).inputs:=by rw [hI,hc2]; rfl
   have hi0:([]:List Int) = (quN N cls m1).ids:=rfl;simp only [be,b9,ints,ends] at hqm;rw [hEq,hIq,hi0];refine an ?_;refine bd [1,2,4,6] (by simp only [ae,pZ,simprocAttr]; exact rfl) ?_;refine ab ?_;refine ab (dR fun K hK=>?_);(repeat refine eV ?_);refine cL rfl ⟨rfl,_,rfl⟩ (by omega) (by first | exact n9 | exact zo) (hqn) ?_;rintro _ rfl;(repeat refine eV ?_);(repeat refine eV ?_);refine cgF rfl rfl ⟨rfl,_,rfl⟩ (by omega) (by first | exact n9 | exact zo) (hqm) ?_;rintro _ rfl;(repeat refine eV ?_);(repeat refine eV ?_);refine aa (hK _ (wK [4,6,100] ?_));clear hK K;refine dI ?_ ?_<;>intro hb
   ·cases hb
   ·refine af ?_;show DW _ _ _ _ _;refine ab (dR fun K hK=>?_);(repeat refine eV ?_);have dK:=@netO.eq_1;refine aa (hK _ (au [4,5] ?_));clear hK K;exact ai (am Tryz.results72 (.two (.cell 4 _ _ _ _ rfl rfl aq rfl rfl (ao _)) (.plain _ _ rfl)) (by decide) rfl)
theorem D3 (f:NF) (N:Net) (d:Nat) (hg:bg N = true) (hd:IsSd N d):DCalls Tryz.prog 29 [.agg (be f N)] (fun r=>r = [.own true (netO (quN N (bv N d) (br N d))),.c (.p (.bool true))]):=by
 have hn:=jf hg;have hr:=ju hg;refine aw Tryz.func29 rfl (by rw [Tryz.ntmps29]; simp) fun w0=>?_;rw [Tryz.ntmps29];have dX:=Us;simp only [bw,bf,Arg.av,be,b9,ints,ends];refine ab (dR fun K hK=>?_);(repeat refine eV ?_);refine aa (hK _ (wK [1,2] ?_));clear hK K;refine ab (dR fun K hK=>?_);(repeat refine eV ?_);refine cL rfl ⟨rfl,_,rfl⟩ (by omega) (by first | exact N8) (nl ⟨false,f.t1,f.o2,f.t2,false,f.t3,false,f.t4⟩ N d hg hd) ?_;rintro _ rfl;(repeat refine eV ?_);refine aa (hK _ (wK [1,2,4,5] ?_));clear hK K;refine ab ?_;refine ab (dR fun K hK=>?_);(repeat refine eV ?_);refine aa (hK _ (wK [1,2,4,12] ?_));clear hK K;refine dI ?_ ?_<;>intro hb
 ·cases hb
 ·refine af ?_;show DW _ _ _ _ _;refine ab (dR fun K hK=>?_);(repeat refine eV ?_);refine cL rfl ⟨rfl,_,rfl⟩ (by omega) (by first | exact Tn) (K0 ⟨false,f.t1,f.o2,f.t2,false,f.t3,false,f.t4⟩ N true 3 (bv N d) (br N d) hg (di N d) (xu hr.1 d) (ll N d) (rj N d) (fun v hv=>fx (by rw [← di N d]; exact hv)) (fun c hc=>ip hd hr hc) (By hd hg) (Ga hd hr)) ?_;rintro _ rfl;(repeat refine eV ?_);have dK:=@netO.eq_1;refine aa (hK _ (au [2,3] ?_));clear hK K;exact ai (am Tryz.results29 (.two (.cell 2 _ _ _ _ rfl rfl aq rfl rfl (ao _)) (.plain _ _ rfl)) (by decide) rfl)
end
section
set_option maxHeartbeats 0
set_option maxRecDepth 8000
open Go Go.RowKit
def zBBs11:=PLift.up (And.intro aq (And.intro @cf (And.intro bn (And.intro b7 (And.intro cd (And.intro ch (And.intro bb (And.intro @if_pos.{1} (And.intro @bo (And.intro @a7 (And.intro @ba @trivial)))))))))))
theorem Uz:type_of% zBBs11.down:=zBBs11.down
theorem Dk (f:NF) (N:Net) (hi:N.ids.length ≤ 2097152) (hg:bg N = false):DCalls Tryz.prog 32 [.agg (be f N)] (fun r=>r = [.own false [.sl true 3 1 (([]:List Int).map iC)],.c (.p (.bool false))]):=by
 refine aw Tryz.func32 rfl (by rw [Tryz.ntmps32]; simp) fun w0=>?_;rw [Tryz.ntmps32];have dX:=Uz;simp only [bw,bf,Arg.av,be,b9,ints,ends];refine ab (dR fun K hK=>?_);(repeat refine eV ?_);refine aa (hK _ (wK [1] ?_));clear hK K;refine ab ?_;refine ab (dR fun K hK=>?_);(repeat refine eV ?_);refine cL rfl ⟨rfl,_,rfl⟩ (by omega) (by first | exact n9) (em ⟨false,f.t1,f.o2,f.t2,false,f.t3,false,f.t4⟩ N hi) ?_;rintro _ rfl;(repeat refine eV ?_);have dK:=@hg;refine aa (hK _ (au [1,8] ?_));clear hK K;refine dI ?_ ?_<;>intro hb
 ·refine ab (dR fun K hK=>?_);(repeat refine eV ?_);refine aa (hK _ (wK [2,3] ?_));clear hK K;refine pm 2 3 1 (by decide) (by simp only [ae,pZ,simprocAttr]) [2,3] (by simp only [ae,pZ,simprocAttr]; exact rfl) ?_;exact ai (am Tryz.results32 (.two (.own _ _ _ _ rfl rfl (own1 (cq _ []))) (.plain _ _ rfl)) (by decide) rfl)
 ·cases hb
theorem Dp (f:NF) (N:Net) (hi:N.ids.length ≤ 2097152) (hg:bg N = false):DCalls Tryz.prog 29 [.agg (be f N)] (fun r=>r = [.own true (netO ku),.c (.p (.bool false))]):=by
 refine aw Tryz.func29 rfl (by rw [Tryz.ntmps29]; simp) fun w0=>?_;rw [Tryz.ntmps29];have dX:=Uz;simp only [bw,bf,Arg.av,be,b9,ints,ends];refine ab (dR fun K hK=>?_);(repeat refine eV ?_);refine aa (hK _ (wK [1,2] ?_));clear hK K;refine ab (dR fun K hK=>?_);(repeat refine eV ?_);refine cL rfl ⟨rfl,_,rfl⟩ (by omega) (by first | exact N8) (Dk ⟨false,f.t1,f.o2,f.t2,false,f.t3,false,f.t4⟩ N hi hg) ?_;rintro _ rfl;(repeat refine eV ?_);refine aa (hK _ (wK [1,2,4,5] ?_));clear hK K;refine ab ?_;refine ab (dR fun K hK=>?_);(repeat refine eV ?_);refine aa (hK _ (wK [1,2,4,12] ?_));clear hK K;refine dI ?_ ?_<;>intro hb
 ·refine ab (dR fun K hK=>?_);(repeat refine eV ?_);refine aa (hK _ (wK [2,3] ?_));clear hK K;refine az 2 0 95 1 (by decide) rfl rfl [2,3] (by simp only [ae,pZ,simprocAttr,List.modify_zero_cons,List.modify_succ_cons]; exact rfl) ?_;refine az 2 1 3 1 (by decide) rfl rfl [2,3] (by simp only [ae,pZ,simprocAttr,List.modify_zero_cons,List.modify_succ_cons]; exact rfl) ?_;refine az 2 2 3 1 (by decide) rfl rfl [2,3] (by simp only [ae,pZ,simprocAttr,List.modify_zero_cons,List.modify_succ_cons]; exact rfl) ?_;exact ai (am Tryz.results29 (.two (.cell 2 _ _ _ _ rfl rfl aq rfl rfl (ao ku)) (.plain _ _ rfl)) (by decide) rfl)
 ·cases hb
end
section
open Go Go.RowKit
theorem S7 {A B:Net} {m:List Int} (h:m.length ≠ A.ends.length):pmB A B m = false:=Bool.eq_false_iff.2 fun h2=>h (gw.1 h2).1
theorem S6 {A B:Net} {m:List Int} (h:(m.all fun n=>inB n 0 ((B.ends.length:Int) - 1)) = false):pmB A B m = false:=by
 unfold pmB;rw [h,Bool.and_false,Bool.false_and]
theorem yg {A B:Net} {m:List Int} {v:Nat} (hv:v < A.ends.length) (h:pmV A B m v ≠ false):pmB A B m = false:=Bool.eq_false_iff.2 fun h2=>h ((gw.1 h2).2.2 v hv)
def igSt6:Nat → Stat
 | 0=>⟨[4],[(4,1)],[],[35],[],[]⟩
 | 1=>⟨[35],[(4,1)],[],[36],[],[]⟩
 | 2=>⟨[2],[],[],[37],[],[]⟩
 | 3=>⟨[7],[],[],[38],[],[]⟩
 | 4=>⟨[37,38],[],[],[39],[],[]⟩
 | 5=>⟨[39],[],[],[40],[],[]⟩
 | 6=>⟨[36,40],[],[],[41],[],[]⟩
 | 7=>⟨[41],[],[],[42],[],[]⟩
 | 8=>⟨[42],[],[],[9],[],[]⟩
 | _=>⟨[],[],[],[],[],[]⟩
def igSt7:Nat → Stat
 | 0=>⟨[8],[],[],[43],[],[]⟩
 | 1=>⟨[43],[],[],[44],[],[]⟩
 | 2=>⟨[9],[],[],[45],[],[]⟩
 | 3=>⟨[45],[],[],[46],[],[]⟩
 | 4=>⟨[44,46],[],[],[47],[],[]⟩
 | 5=>⟨[47],[],[],[48],[],[]⟩
 | 6=>⟨[3,48],[(3,1)],[],[49],[],[]⟩
 | 7=>⟨[49,48],[(3,1)],[],[50],[],[]⟩
 | 8=>⟨[7,48],[],[],[51],[],[]⟩
 | 9=>⟨[50,51,48],[],[],[52],[],[]⟩
 | 10=>⟨[52,48],[],[],[53],[],[]⟩
 | 11=>⟨[4,48],[(4,1)],[],[54],[],[]⟩
 | 12=>⟨[54,48],[(4,1)],[],[55],[],[]⟩
 | 13=>⟨[2,48],[],[],[56],[],[]⟩
 | 14=>⟨[7,48],[],[],[57],[],[]⟩
 | 15=>⟨[56,57,48],[],[],[58],[],[]⟩
 | 16=>⟨[58,48],[],[],[59],[],[]⟩
 | 17=>⟨[55,59,48],[],[],[60],[],[]⟩
 | 18=>⟨[60,48],[],[],[61],[],[]⟩
 | 19=>⟨[53,61,48],[],[],[62],[],[]⟩
 | 20=>⟨[48,62],[],[],[63],[],[]⟩
 | _=>⟨[],[],[],[],[],[]⟩
def Lt:Nat → Stat
 | 0=>⟨[9],[],[],[71],[],[]⟩
 | 1=>⟨[10],[],[],[72],[],[]⟩
 | 2=>⟨[71,72],[],[],[73],[],[]⟩
 | 3=>⟨[73],[],[],[74],[],[]⟩
 | 4=>⟨[2],[],[],[75],[],[]⟩
 | 5=>⟨[11],[(11,1)],[],[76],[],[]⟩
 | 6=>⟨[76],[(11,1)],[],[77],[],[]⟩
 | 7=>⟨[75,77],[],[],[78],[],[]⟩
 | 8=>⟨[78],[],[],[79],[],[]⟩
 | 9=>⟨[11],[(11,1)],[],[80],[],[]⟩
 | 10=>⟨[80],[(11,1)],[],[81],[],[]⟩
 | 11=>⟨[79,81],[],[],[82],[],[]⟩
 | 12=>⟨[74,82],[],[],[83],[],[]⟩
 | _=>⟨[],[],[],[],[],[]⟩
def zBPmg1:=PLift.up (And.intro aq (And.intro @netO.eq_1 (And.intro @cf (And.intro bn (And.intro b7 (And.intro cd (And.intro ch (And.intro bb (And.intro ee (And.intro @if_pos.{1} (And.intro @cx (And.intro @cw (And.intro @bo (And.intro @a7 (And.intro @ba (And.intro @df (And.intro @ek @trivial)))))))))))))))))
theorem jah:type_of% zBPmg1.down:=zBPmg1.down
set_option maxRecDepth 8000 in
set_option maxHeartbeats 0 in
theorem mr (f g:NF) (A B:Net) (o:Bool) (t:TypeId) (m:List Int) (hg:bg A = true) (hB:B.inputs.length = B.ends.length) (hBl:B.ends.length ≤ 100000) (hl:m.length ≤ 1000000):DCalls Tryz.prog 74 [.agg (be f A),.agg (be g B),.c (.sl o t 1 (m.map iC))] (fun r=>r = [.c (.p (.bool (pmB A B m)))]):=by
 obtain ⟨hs,hn,hids,hdg⟩:=ep hg;have hin:=gd hg;refine aw Tryz.func74 rfl (by rw [Tryz.ntmps74]; simp) fun w0=>?_;rw [Tryz.ntmps74];have dX:=jah;simp only [bw,bf,Arg.av,be,b9,ints,ends];refine ab (dR fun K hK=>?_);(repeat refine eV ?_);refine aa (hK _ (wK [2,3,4] ?_));clear hK K
 by_cases hml:m.length = A.ends.length
 ·have hm9:=hml;refine ab ?_;have dX:=And.intro dX (And.intro @hml @bne_self_eq_false.{0});refine ab (dR fun K hK=>?_);(repeat refine eV ?_);have dX:=And.intro dX (And.intro @hml @bne_self_eq_false.{0});refine cgF rfl rfl ⟨rfl,_,rfl⟩ (by omega) (by first | exact Nz) (my o t m 0 ((B.ends.length:Int) - 1) (by omega)) ?_;rintro _ rfl;(repeat refine eV ?_);obtain hm1 | hm1:=Bool.eq_false_or_eq_true (m.all fun n=>inB n 0 ((B.ends.length:Int) - 1))
  ·have hmr:∀ v,v < A.ends.length → ∃ u:Nat,gi m v = (u:Int) ∧ u < B.ends.length:=fun v hv=>by
    have h5:=List.all_eq_true.1 hm1 (gi m v) (by rw [bt (by omega)]; exact List.getElem_mem (by omega));have:=db.1 h5;exact ⟨(gi m v).toNat,by omega,by omega⟩
   have dX:=And.intro dX (And.intro @hml (And.intro @bne_self_eq_false.{0} @hm1));(repeat refine eV ?_);have dK:=And.intro @hml (And.intro @bne_self_eq_false.{0} @hm1);refine aa (hK _ (au [2,3,4,26] ?_));clear hK K;refine dI ?_ ?_<;>intro hb
   ·cases hb
   ·refine af ?_;show DW _ _ _ _ _;refine ab ?_;refine ab (dR fun K hK=>?_);(repeat refine eV ?_);refine aa (hK _ (wK [2,3,4,28,29,30] ?_));clear hK K;refine ac ?_;refine ax (X:=Nat) (fun v=>v ≤ A.ends.length ∧ ∀ u,u < v → pmV A B m u = false) (fun v=>[(30,.c (.p (.int .i64 v)))]) (fun v=>[]) (fun v=>A.ends.length - v) 0 ⟨Nat.zero_le _,fun u hu=>absurd hu (Nat.not_lt_zero u)⟩ (by first | rfl | (simp only [ae,pZ,simprocAttr,Int.natCast_zero] <;> rfl)) ?_;rintro v ⟨hv,hbef⟩;intro E hE;simp only [ae,pZ,simprocAttr] at hE;subst hE;refine ab (dR fun K hK=>?_);(repeat refine eV ?_);refine aa (hK _ (wK [2,3,4,28,29,30,31] ?_));clear hK K;refine ab (dI (fun hb=>?_) (fun hb=>?_))
    ·have hv1:v < A.ends.length:=by simpa using hb
     obtain ⟨u,hu,hul⟩:=hmr v hv1;have hpn:=o9 (A:=A) (B:=B) (m:=m) (v:=v);rw [hu,Int.toNat_natCast] at hpn;have hdv:=hdg v;refine af ?_;show DW _ _ _ _ _;refine ab (ac ?_);have dX:=And.intro dX (@Int.toNat_natCast);refine ab (dR fun K hK=>?_);(repeat refine eV ?_);refine aa (hK _ (wK [2,3,4,7,8,28,29,30] ?_));clear hK K;have dX:=And.intro dX (And.intro @igSt6.eq_def (And.intro @hu @Int.toNat_natCast));refine ab (cm igSt6 (fun j r=>match j with | _=>True) fun K hK=>?_);(repeat refine dV ?_);have dK:=@hu;refine ak (hK _ (au [2,3,4,7,8,9,28,29,30] ?_));clear hK K
     by_cases p1:(gl A.ends v).length = (gl B.ends u).length
     ·by_cases p2:gi A.inputs v = gi B.inputs u
      ·refine ab ?_;have dX:=And.intro dX (And.intro @igSt7.eq_def (And.intro @hu (And.intro (Eq.symm p1) (And.intro (Eq.symm p2) (And.intro @bne_self_eq_false.{0} @Int.toNat_natCast)))));refine ab (cm igSt7 (fun j r=>match j with | _=>True) fun K hK=>?_);(repeat refine dV ?_);have dK:=And.intro @hu (And.intro (Eq.symm p1) (And.intro (Eq.symm p2) @bne_self_eq_false.{0}));refine ak (hK _ (au [2,3,4,8,9,28,29,30,63] ?_));clear hK K;refine dI ?_ ?_<;>intro hb
       ·cases hb
       ·refine af ?_;show DW _ _ _ _ _;have dX:=And.intro dX (@Int.toNat_natCast);refine ab (dR fun K hK=>?_);(repeat refine eV ?_);refine aa (hK _ (wK [2,3,4,9,28,29,30,64,65,66] ?_));clear hK K;refine ac ?_;refine ax (X:=Nat) (fun i=>i ≤ (gl A.ends v).length ∧ ∀ j,j < i → gp (gl B.ends u) j = (gi m (gp (gl A.ends v) j).1.toNat,(gp (gl A.ends v) j).2)) (fun i=>[(66,.c (.p (.int .i64 i)))]) (fun i=>[]) (fun i=>(gl A.ends v).length - i) 0 ⟨Nat.zero_le _,fun j hj=>absurd hj (Nat.not_lt_zero j)⟩ (by first | rfl | (simp only [ae,pZ,simprocAttr,Int.natCast_zero] <;> rfl)) ?_;rintro i ⟨hi,hbi⟩;intro E hE;simp only [ae,pZ,simprocAttr] at hE;subst hE;refine ab (dR fun K hK=>?_);(repeat refine eV ?_);refine aa (hK _ (wK [2,3,4,9,28,29,30,64,65,66,67] ?_));clear hK K;refine ab (dI (fun hb=>?_) (fun hb=>?_))
        ·have hi1:i < (gl A.ends v).length:=by simpa using hb
         have hi2:i < (gl B.ends u).length:=by omega
         obtain ⟨q1,q2,q3,q4,q5⟩:=d9 hs hv1 hi1;refine af ?_;show DW _ _ _ _ _;refine ab (ac ?_);have dX:=And.intro dX (@Int.toNat_natCast);refine ab (dR fun K hK=>?_);(repeat refine eV ?_);refine aa (hK _ (wK [2,3,4,9,10,11,28,29,30,64,65,66] ?_));clear hK K;obtain ⟨b1,hb1⟩:∃ b1,((gp (gl B.ends u) i).1 == gi m (nd A v i)) = b1:=⟨_,rfl⟩;obtain ⟨b2,hb2⟩:∃ b2,((gp (gl B.ends u) i).2 == (bk A v i:Int)) = b2:=⟨_,rfl⟩
         have hbb:(b1 && b2) = true ↔ gp (gl B.ends u) i = (gi m (gp (gl A.ends v) i).1.toNat,(gp (gl A.ends v) i).2):=by
          rw [q5,Bool.and_eq_true,← hb1,← hb2,beq_iff_eq,beq_iff_eq,Prod.ext_iff];exact Iff.rfl
         have hbt:(b1 && (b2 && true)) = (b1 && b2):=by rw [Bool.and_true]
         obtain ⟨b3,hb3⟩:∃ b3,(b1 && b2) = b3:=⟨_,rfl⟩;rw [hb3] at hbb hbt;refine ab (cm Lt (fun j r=>match j with | _=>True) fun K hK=>?_)
         repeat (apply A6; (focus exact rfl); (focus simp (disch:=first | omega | (intros; contradiction)) only [ae,bu,qo,pZ,simprocAttr,aq,netO,cf,bn,b7,cd,ch,bb,ee,if_pos,cx,cw,bo,a7,ba,df,ek ,Lt,q5,hb1,hb2,hb3,hbt,hml,C0,Int.toNat_natCast]); (focus (simp (disch:=first | omega | (intros; contradiction)) only [ae,bu,pZ,simprocAttr,aq,netO,cf,bn,b7,cd,ch,bb,ee,if_pos,cx,cw,bo,a7,ba,df,ek ,Lt,q5,hb1,hb2,hb3,hbt,hml,C0,Int.toNat_natCast]; exact rfl)))
         have dK:=And.intro @q5 (And.intro @hb1 (And.intro @hb2 (And.intro @hb3 @hbt)));refine ak (hK _ (au [2,3,4,9,28,29,30,64,65,66,83] ?_));clear hK K
         cases b3 with
         | true =>
          have hok:=hbb.1 rfl;refine dI ?_ ?_<;>intro hb
          ·cases hb
          ·refine af ?_;show DW _ _ _ _ _;refine dR fun K hK=>?_;(repeat refine eV ?_);have dK:=@bj;refine aa (hK _ ?_);clear hK K;show ∃ x,_ ∧ _ ∧ Weak _ _;refine ⟨i + 1,?_,?_,ay [2,3,4,9,28,29,30,64,65,66]⟩
           ·refine ⟨hi1,fun j hj=>?_⟩
            by_cases h:j = i
            ·rw [h]; exact hok
            ·exact hbi j (by omega)
           ·omega
         | false =>
          have hbad:pmB A B m = false:=yg hv1 fun h=>by
           have:=hbb.2 ((hpn.1 h).2.2 i hi1);cases this
          refine dI ?_ ?_<;>intro hb
          ·refine ab (dR fun K hK=>?_);(repeat refine eV ?_);refine aa (hK _ (wK [6] ?_));clear hK K;exact ai (am Tryz.results74 (.one (.plain _ _ rfl)) (by decide) (by rw [hbad]))
          ·cases hb
        ·have hi2:i = (gl A.ends v).length:=by
          have:¬ i < (gl A.ends v).length:=by simpa using hb
          omega
         have hvg:pmV A B m v = false:=hpn.2 ⟨p1,p2,fun j hj=>hbi j (by omega)⟩;refine an ?_;refine bd [2,3,4,28,29,30] (by simp only [ae,pZ,simprocAttr]; exact rfl) ?_;refine dR fun K hK=>?_;(repeat refine eV ?_);have dK:=@bj;refine aa (hK _ ?_);clear hK K;show ∃ x,_ ∧ _ ∧ Weak _ _;refine ⟨v + 1,?_,?_,ay [2,3,4,28,29,30]⟩
         ·refine ⟨hv1,fun u2 hu2=>?_⟩
          by_cases h:u2 = v
          ·rw [h]; exact hvg
          ·exact hbef u2 (by omega)
         ·omega
      ·have hbad:pmB A B m = false:=yg hv1 fun h=>p2 (hpn.1 h).2.1;have e2:(gi A.inputs v != gi B.inputs u) = true:=by rw [bne_iff_ne]; exact p2
       refine ab ?_;have dX:=And.intro dX (And.intro @igSt7.eq_def (And.intro @hu (And.intro (Eq.symm p1) (And.intro @e2 (And.intro @bne_self_eq_false.{0} @Int.toNat_natCast)))));refine ab (cm igSt7 (fun j r=>match j with | _=>True) fun K hK=>?_);(repeat refine dV ?_);have dK:=And.intro @hu (And.intro (Eq.symm p1) (And.intro @e2 @bne_self_eq_false.{0}));refine ak (hK _ (au [2,3,4,8,9,28,29,30,63] ?_));clear hK K;refine dI ?_ ?_<;>intro hb
       ·refine ab (dR fun K hK=>?_);(repeat refine eV ?_);refine aa (hK _ (wK [6] ?_));clear hK K;exact ai (am Tryz.results74 (.one (.plain _ _ rfl)) (by decide) (by rw [hbad]))
       ·cases hb
     ·have hbad:pmB A B m = false:=yg hv1 fun h=>p1 (hpn.1 h).1;have e1:(((gl A.ends v).length:Int) != ((gl B.ends u).length:Int)) = true:=by rw [bne_iff_ne]; omega
      refine ab ?_;have dX:=And.intro dX (And.intro @igSt7.eq_def (And.intro @hu (And.intro @e1 @Int.toNat_natCast)));refine ab (cm igSt7 (fun j r=>match j with | _=>True) fun K hK=>?_);(repeat refine dV ?_);have dK:=And.intro @hu @e1;refine ak (hK _ (au [2,3,4,8,9,28,29,30,63] ?_));clear hK K;refine dI ?_ ?_<;>intro hb
      ·refine ab (dR fun K hK=>?_);(repeat refine eV ?_);refine aa (hK _ (wK [6] ?_));clear hK K;exact ai (am Tryz.results74 (.one (.plain _ _ rfl)) (by decide) (by rw [hbad]))
      ·cases hb
    ·have hv2:v = A.ends.length:=by
      have:¬ v < A.ends.length:=by simpa using hb
      omega
     have hgood:pmB A B m = true:=gw.2 ⟨hml,fun v hv=>by obtain ⟨u,hu,hul⟩:=hmr v hv; rw [hu]; omega,fun v hv=>hbef v (by omega)⟩;refine an ?_;refine bd [] (by simp only [ae,pZ,simprocAttr]; exact rfl) ?_;refine ab (dR fun K hK=>?_);(repeat refine eV ?_);refine aa (hK _ (wK [6] ?_));clear hK K;exact ai (am Tryz.results74 (.one (.plain _ _ rfl)) (by decide) (by rw [hgood]))
  ·have hbad:pmB A B m = false:=S6 hm1;have dX:=And.intro dX (And.intro @hml (And.intro @bne_self_eq_false.{0} @hm1));(repeat refine eV ?_);have dK:=And.intro @hml (And.intro @bne_self_eq_false.{0} @hm1);refine aa (hK _ (au [2,3,4,26] ?_));clear hK K;refine dI ?_ ?_<;>intro hb
   ·refine ab (dR fun K hK=>?_);(repeat refine eV ?_);refine aa (hK _ (wK [6] ?_));clear hK K;exact ai (am Tryz.results74 (.one (.plain _ _ rfl)) (by decide) (by rw [hbad]))
   ·cases hb
 ·have hbad:pmB A B m = false:=S7 hml;have hne:((m.length:Int) != (A.ends.length:Int)) = true:=by rw [bne_iff_ne]; omega
  refine ab ?_;have dX:=And.intro dX (@hne);refine ab (dR fun K hK=>?_);(repeat refine eV ?_);have dX:=And.intro dX (@hne);refine csF ?_;(repeat refine eV ?_);have dX:=And.intro dX (@hne);(repeat refine eV ?_);have dK:=@hne;refine aa (hK _ (au [2,3,4,26] ?_));clear hK K;refine dI ?_ ?_<;>intro hb
  ·refine ab (dR fun K hK=>?_);(repeat refine eV ?_);refine aa (hK _ (wK [6] ?_));clear hK K;exact ai (am Tryz.results74 (.one (.plain _ _ rfl)) (by decide) (by rw [hbad]))
  ·cases hb
end
section
set_option maxHeartbeats 0
set_option maxRecDepth 8000
open Go Go.RowKit
def emSt7:Nat → Stat
 | 0=>⟨[3],[(3,1)],[],[29],[],[]⟩
 | 1=>⟨[29],[(3,1)],[],[30],[],[]⟩
 | 2=>⟨[9],[],[],[31],[],[]⟩
 | 3=>⟨[30,31],[],[],[32],[],[]⟩
 | 4=>⟨[32],[],[],[33],[],[]⟩
 | 5=>⟨[33],[],[],[34],[],[]⟩
 | 6=>⟨[4],[(4,1)],[],[35],[],[]⟩
 | 7=>⟨[35],[(4,1)],[],[36],[],[]⟩
 | 8=>⟨[7],[],[],[37],[],[]⟩
 | 9=>⟨[9],[],[],[38],[],[]⟩
 | 10=>⟨[37,38],[(7,1)],[],[39],[],[]⟩
 | 11=>⟨[39],[(7,2)],[],[40],[],[]⟩
 | 12=>⟨[36,40],[],[],[41],[],[]⟩
 | 13=>⟨[41],[],[],[42],[],[]⟩
 | 14=>⟨[42],[],[],[43],[],[]⟩
 | 15=>⟨[34,43],[],[],[44],[],[]⟩
 | _=>⟨[],[],[],[],[],[]⟩
def emSt13:Nat → Stat
 | 0=>⟨[7],[],[],[62],[],[]⟩
 | 1=>⟨[11],[(11,1)],[],[63],[],[]⟩
 | 2=>⟨[63],[(11,1)],[],[64],[],[]⟩
 | 3=>⟨[4],[(4,1)],[],[65],[],[]⟩
 | 4=>⟨[65],[(4,1)],[],[66],[],[]⟩
 | 5=>⟨[7],[],[],[67],[],[]⟩
 | 6=>⟨[9],[],[],[68],[],[]⟩
 | 7=>⟨[67,68],[(7,1)],[],[69],[],[]⟩
 | 8=>⟨[69],[(7,2)],[],[70],[],[]⟩
 | 9=>⟨[66,70],[],[],[71],[],[]⟩
 | 10=>⟨[71],[],[],[72],[],[]⟩
 | 11=>⟨[10],[],[],[73],[],[]⟩
 | 12=>⟨[72,73],[],[],[74],[],[]⟩
 | 13=>⟨[74],[],[],[75],[],[]⟩
 | 14=>⟨[75],[],[],[76],[],[]⟩
 | 15=>⟨[62,64],[(7,1)],[],[77],[],[]⟩
 | 16=>⟨[77,76],[(7,2)],[],[],[(7,2)],[]⟩
 | _=>⟨[],[],[],[],[],[]⟩
def zBBs21:=PLift.up (And.intro aq (And.intro bb (And.intro ch (And.intro bn (And.intro b7 (And.intro @if_pos.{1} (And.intro @cf (And.intro cd (And.intro @cx (And.intro @cw (And.intro @bo (And.intro @a7 (And.intro @ba (And.intro @ky (And.intro @kx @trivial)))))))))))))))
theorem Uy:type_of% zBBs21.down:=zBBs21.down
theorem Dx (f g:NF) (A B:Net) (w:Nat) (X:List Int) (hgA:bg A = true) (hgB:bg B = true) (hw:w < B.ends.length) (hcA:qh A 0 = true) (hX2:pmB A B X = true) (hX3:gi X 0 = w):DCalls Tryz.prog 77 [.agg (be f A),.agg (be g B),.c (.p (.int .i64 w))] (fun r=>r = [.own false [.sl true 3 1 (X.map iC)]]):=by
 obtain ⟨hs,hn,hids,hdg⟩:=ep hgA;obtain ⟨hsB,hnB,hidsB,hdgB⟩:=ep hgB;have hinB:=gd hgB;have hX:X9 A B w X:=.inl ⟨hX2,hX3⟩;have hX1:X ≠ []:=fun h=>by have:=(gw.1 hX2).1; rw [h] at this; simp at this; omega
 refine aw Tryz.func77 rfl (by rw [Tryz.ntmps77]; simp) fun w0=>?_;rw [Tryz.ntmps77];have dX:=Uy;simp only [bw,bf,Arg.av,be,b9,ints,ends];refine ab (dR fun K hK=>?_);(repeat refine eV ?_);refine aa (hK _ (wK [2,3,4] ?_));clear hK K;refine ab (dR fun K hK=>?_)
 repeat (apply cr; (focus exact rfl); (focus (simp (disch:=first | omega | (intros; contradiction)) only [ae,bu,pZ,simprocAttr,aq,bb,ch,bn,b7,if_pos,cf,cd,cx,cw,bo,a7,ba,ky,kx ,kv]; exact rfl)))
 refine fb rfl ⟨rfl,_,rfl⟩ (by omega) (by first | exact kv) (by simp (disch:=first | omega | (intros; contradiction)) only [ae,bu,pZ,simprocAttr,aq,bb,ch,bn,b7,if_pos,cf,cd,cx,cw,bo,a7,ba,ky,kx ,kv] <;> exact rfl) (Dm true 3 (-1) A.ends.length (by omega)) ?_;rintro _ rfl
 repeat (apply cr; (focus exact rfl); (focus (simp (disch:=first | omega | (intros; contradiction)) only [ae,bu,pZ,simprocAttr,aq,bb,ch,bn,b7,if_pos,cf,cd,cx,cw,bo,a7,ba,ky,kx ,kv]; exact rfl)))
 refine aa (hK _ (wK [2,3,4,7] ?_));clear hK K;have hrl:(List.replicate A.ends.length (-1:Int)).length = A.ends.length:=List.length_replicate;have dX:=And.intro dX (And.intro @hrl @a7);refine ab (dR fun K hK=>?_);(repeat refine eV ?_);have dK:=@lv;refine aa (hK _ (au [3,4,7] ?_));clear hK K;refine ab (dR fun K hK=>?_);(repeat refine eV ?_);refine aa (hK _ (wK [3,4,7,8] ?_));clear hK K;have hq0:[[C.p (.int .i64 0)]] = ((rcR A 0).drop 0).map iC:=rfl;refine ab (ac ?_);refine ax (X:=List Int × Nat) (fun x=>x.2 ≤ (rcR A x.2).length ∧ ExM A B w (rcR A x.2) x.1 ∧ gi x.1 0 = w) (fun x=>[]) (fun x=>[((7,0),⟨none,[.sl true 3 1 (x.1.map iC)]⟩),((8,0),⟨none,[.sl true 3 1 (((rcR A x.2).drop x.2).map iC)]⟩)]) (fun x=>A.ends.length - x.2) ((List.replicate A.ends.length (-1)).set 0 (w:Int),0) ⟨Nat.zero_le _,ExM.start (by omega) hw,by rw [gy,if_pos ⟨rfl,by rw [hrl]; omega⟩]⟩ (by first | rfl | (simp only [ae,pZ,simprocAttr,Int.natCast_zero] <;> rfl)) ?_;rintro ⟨m,k⟩ ⟨hk,hI,h01⟩;intro E hE;simp only [ae,pZ,simprocAttr] at hE;subst hE;dsimp only at hk hI h01 ⊢;have h00:=h01;have hLl:=Ap hs (by omega) k;have hR:=la hs (by omega) k
 have hLs0:rcR A (k + 1) = if k < (rcR A k).length then fq (i5 A (gi (rcR A k) k).toNat (gl A.ends (gi (rcR A k) k).toNat).length) (rcR A k) (gl A.ends (gi (rcR A k) k).toNat).length else rcR A k:=rfl
 have hend:(rcR A k).length ≤ k → rcR A k = rcR A A.ends.length:=fun h=>Ni hs (by omega) h (by omega);have hml:=hI.len;obtain ⟨L,hL⟩:∃ L,L = rcR A k:=⟨_,rfl⟩;rw [← hL] at hk hI hLl hR hLs0 hend ⊢;have hdl:(L.drop k).length = L.length - k:=List.length_drop;refine ab ?_
 by_cases hkl:k < L.length
 ·rw [if_pos hkl] at hLs0
  obtain ⟨v,hv,hvn⟩:∃ v:Nat,gi L k = (v:Int) ∧ v < A.ends.length:=by
   have:=hR.rng (gi L k) (by rw [bt hkl]; exact List.getElem_mem hkl);exact ⟨(gi L k).toNat,by omega,by omega⟩
  rw [hv,Int.toNat_natCast] at hLs0;have hvL:(v:Int) ∈ L:=by rw [← hv,bt hkl]; exact List.getElem_mem hkl
  obtain ⟨u,hu,hul⟩:∃ u:Nat,gi m v = (u:Int) ∧ u < B.ends.length:=by
   have h1:=(hI.mem v hvn).2 hvL
   rcases hI.rng v hvn with h2 | h2
   ·omega
   ·exact ⟨(gi m v).toNat,by omega,by omega⟩
  obtain ⟨ws,hws⟩:∃ ws,ws = i5 A v (gl A.ends v).length:=⟨_,rfl⟩;have hLs:rcR A (k + 1) = fq ws L (gl A.ends v).length:=by rw [hLs0,hws]
  have hdv:=hdg v;have hqc:L.drop k = (v:Int) :: L.drop (k + 1):=by rw [List.drop_eq_getElem_cons hkl,← bt hkl,hv]
  have hql:(L.drop (k + 1)).length ≤ 40:=by rw [List.length_drop]; omega
  have hq1:((v:Int) :: L.drop (k + 1)).length = (L.drop (k + 1)).length + 1:=rfl;have hq2:gi ((v:Int) :: L.drop (k + 1)) 0 = (v:Int):=rfl
  have hcut:jo (iC (v:Int) :: (L.drop (k + 1)).map iC) 1 ((L.drop (k + 1)).length + 1) = (L.drop (k + 1)).map iC:=by
   unfold jo;simp [List.take_of_length_le]
  have hgt:decide ((((L.drop (k + 1)).length + 1:Nat):Int) > 0) = true:=decide_eq_true (by omega);have hA0:fq ws L 0 = L:=rfl;rw [hqc];have dX:=And.intro dX (And.intro @hq1 @hgt);refine ab (dR fun K hK=>?_);(repeat refine eV ?_);have dK:=And.intro @hq1 @hgt;refine aa (hK _ (au [3,4,7,8,23] ?_));clear hK K;refine dI ?_ ?_<;>intro hb
  ·refine af ?_;show DW _ _ _ _ _;refine ac ?_;have dX:=And.intro dX (And.intro @hq1 (And.intro @hq2 @a7));refine ab (dR fun K hK=>?_);(repeat refine eV ?_);have dK:=@hq2;refine aa (hK _ (au [3,4,7,8,9] ?_));clear hK K;have dX:=And.intro dX (@hq1);refine ab (dR fun K hK=>?_);(repeat refine eV ?_);have dK:=And.intro @ba @hcut;refine aa (hK _ (au [3,4,7,8,9] ?_));clear hK K
   by_cases hde:(gl A.ends v).length = (gl B.ends u).length
   ·refine ab ?_;have dX:=And.intro dX (And.intro @emSt7.eq_def (And.intro @hu (And.intro (Eq.symm hde) (And.intro @bne_self_eq_false.{0} @Int.toNat_natCast))));refine ab (cm emSt7 (fun j r=>match j with | _=>True) fun K hK=>?_);(repeat refine dV ?_);have dK:=And.intro @hu (And.intro (Eq.symm hde) @bne_self_eq_false.{0});refine ak (hK _ (au [3,4,7,8,9,44] ?_));clear hK K;refine dI ?_ ?_<;>intro hb
    ·cases hb
    ·refine af ?_;show DW _ _ _ _ _;have dX:=And.intro dX (@Int.toNat_natCast);refine ab (dR fun K hK=>?_);(repeat refine eV ?_);refine aa (hK _ (wK [3,4,7,8,9,49,50,51] ?_));clear hK K;refine ac ?_;refine ax (X:=List Int × Nat) (fun x=>ExM A B w (fq ws L x.2) x.1 ∧ gi x.1 0 = w ∧ x.2 ≤ (gl A.ends v).length ∧ gi x.1 v = u) (fun x=>[(51,.c (.p (.int .i64 x.2)))]) (fun x=>[((7,0),⟨none,[.sl true 3 1 (x.1.map iC)]⟩),((8,0),⟨none,[.sl true 3 1 (((fq ws L x.2).drop (k + 1)).map iC)]⟩)]) (fun x=>(gl A.ends v).length - x.2) (m,0) ⟨hI,h00,Nat.zero_le _,hu⟩ (by first | rfl | (simp only [ae,pZ,simprocAttr,Int.natCast_zero] <;> rfl)) ?_;rintro ⟨m2,j⟩ ⟨hJ,h01,hj,hu2⟩;intro E hE;simp only [ae,pZ,simprocAttr] at hE;subst hE;dsimp only at hJ h01 hj hu2 ⊢;have hm2l:=hJ.len
     have hAs:fq ws L (j + 1) = if nk (fq ws L j) (gi ws j) = true then fq ws L j else fq ws L j ++ [gi ws j]:=rfl
     have hAl:=Dj (ws:=ws) (L:=L) j;obtain ⟨L2,hL2⟩:∃ L2,L2 = fq ws L j:=⟨_,rfl⟩
     have hkl2:k + 1 ≤ L2.length:=by
      obtain ⟨M,hM⟩:=xn (ws:=ws) (L:=L) j;rw [hL2,hM,List.length_append]; omega
     rw [← hL2] at hJ hAs hAl ⊢;obtain ⟨Q2,hQ2⟩:∃ Q2,Q2 = L2.drop (k + 1):=⟨_,rfl⟩;have hQl:Q2.length ≤ 2000:=by rw [hQ2,List.length_drop]; omega
     rw [← hQ2];refine ab (dR fun K hK=>?_);(repeat refine eV ?_);refine aa (hK _ (wK [3,4,7,8,9,49,50,51,52] ?_));clear hK K;refine ab (dI (fun hb=>?_) (fun hb=>?_))
     ·have hj1:j < (gl A.ends v).length:=by simpa using hb
      obtain ⟨q1,q2,q3,q4,q5⟩:=d9 hs hvn hj1;have hwj:gi ws j = ((nd A v j:Nat):Int):=by rw [hws,Cd hj1,q5]
      have hmm:=hJ.mem (nd A v j) q1;rw [hwj] at hAs;refine af ?_;show DW _ _ _ _ _;refine ab (ac ?_);have dX:=And.intro dX (@Int.toNat_natCast);refine ab (dR fun K hK=>?_);(repeat refine eV ?_);have dK:=@q5;refine aa (hK _ (au [3,4,7,8,9,10,11,49,50,51] ?_));clear hK K;have dX:=And.intro dX (And.intro @q5 @Int.toNat_natCast);refine ab (dR fun K hK=>?_);(repeat refine eV ?_);have dK:=@q5;refine aa (hK _ (au [3,4,7,8,9,10,11,49,50,51,61] ?_));clear hK K;refine dI ?_ ?_<;>intro hb
      ·have h0:gi m2 (nd A v j) < 0:=by simpa using hb
       have hnh:nk L2 ((nd A v j:Nat):Int) = false:=Bool.eq_false_iff.2 fun h=>by
        have:=hmm.2 (gn.1 h); omega
       rw [if_neg (by rw [hnh]; decide)] at hAs;have hJ2:=hJ.step hs hsB hvn hu2 hde hj1 h0;have hdr:Q2 ++ [((nd A v j:Nat):Int)] = (fq ws L (j + 1)).drop (k + 1):=by rw [hAs,List.drop_append_of_le_length hkl2,hQ2]
       have hnv:nd A v j ≠ v:=fun e=>by rw [e] at h0; omega
       have hz0:nd A v j ≠ 0:=fun e=>by rw [e] at h0; omega
       have hgn:∀ y,y ≠ nd A v j → gi (m2.set (nd A v j) (gp (gl B.ends u) j).1) y = gi m2 y:=fun y hy=>by rw [gy,if_neg (fun hh=>hy hh.1)]
       have dX:=And.intro dX (And.intro @emSt13.eq_def (And.intro @q5 (And.intro @hu2 @Int.toNat_natCast)));refine ab (cm emSt13 (fun j r=>match j with | _=>True) fun K hK=>?_);(repeat refine dV ?_);have dK:=And.intro @q5 (And.intro @hu2 @lv);refine ak (hK _ (au [3,4,7,8,9,11,49,50,51] ?_));clear hK K;have dX:=And.intro dX (@q5);refine dR fun K hK=>?_;(repeat refine eV ?_);have dK:=And.intro @q5 (And.intro @il @hdr);refine aa (hK _ (au [3,4,7,8,9,49,50,51] ?_));clear hK K;refine dR fun K hK=>?_;(repeat refine eV ?_);have dK:=@bj;refine aa (hK _ ?_);clear hK K;show ∃ x,_ ∧ _ ∧ Weak _ _;refine ⟨(m2.set (nd A v j) (gp (gl B.ends u) j).1,j + 1),?_,?_,ay [3,4,7,8,9,49,50,51]⟩
       ·exact ⟨by rw [hAs]; exact hJ2,by rw [hgn 0 (fun e=>hz0 e.symm)]; exact h01,hj1,by rw [hgn v (fun e=>hnv e.symm)]; exact hu2⟩
       ·dsimp only; omega
      ·have h0:0 ≤ gi m2 (nd A v j):=by simpa using hb
       rw [if_pos (gn.2 (hmm.1 h0))] at hAs;have hdr:(fq ws L (j + 1)).drop (k + 1) = Q2:=by rw [hAs,hQ2]
       refine af ?_;show DW _ _ _ _ _;refine dR fun K hK=>?_;(repeat refine eV ?_);have dK:=And.intro @bj @hdr;refine aa (hK _ ?_);clear hK K;show ∃ x,_ ∧ _ ∧ Weak _ _;refine ⟨(m2,j + 1),?_,?_,ay [3,4,7,8,9,49,50,51]⟩
       ·exact ⟨by rw [hAs]; exact hJ,h01,hj1,hu2⟩
       ·dsimp only; omega
     ·have hj2:j = (gl A.ends v).length:=by
       have:¬ j < (gl A.ends v).length:=by simpa using hb
       omega
      have hLn:L2 = rcR A (k + 1):=by rw [hL2,hLs,hj2]
      have hk9:k + 1 ≤ (rcR A (k + 1)).length:=by rw [← hLn]; exact hkl2
      rw [hQ2,hLn];rw [hLn] at hJ;refine an ?_;show ∃ x,_ ∧ _ ∧ Weak _ _;refine ⟨(m2,k + 1),⟨hk9,hJ,h01⟩,?_,R5 [3,4,7,8]⟩;dsimp only;omega
   ·have hXe:=hI.none hX hvn hu hde;have e1:(((gl A.ends v).length:Int) != ((gl B.ends u).length:Int)) = true:=by rw [bne_iff_ne]; omega
    exact absurd hXe hX1
  ·cases hb
 ·have hke:L.length = k:=by omega
  have hq0:L.drop k = []:=List.drop_eq_nil_of_le (by omega);have hLe:=hend (by omega)
  have hall:∀ x:Nat,x < A.ends.length → (x:Int) ∈ L:=fun x hx=>by
   have hlen:=(Ik hs (show 0 < A.ends.length by omega)).2 hcA;have hRn:=la hs (show 0 < A.ends.length by omega) A.ends.length;have hp:=pe _ _ hRn.nod (fun y hy=>⟨(hRn.rng y hy).1,(hRn.rng y hy).2.1⟩) hlen;rw [hLe];exact hp.mem_iff.2 (ja.2 ⟨by omega,by omega⟩)
  have hfin:=hI.done hX h01 hall;rw [hq0];refine ab (dR fun K hK=>?_);(repeat refine eV ?_);refine aa (hK _ (wK [3,4,7,8,23] ?_));clear hK K;refine dI ?_ ?_<;>intro hb
  ·cases hb
  ·refine an ?_;refine wK [3,4,7] ?_
   have hpm:pmB A B m = true:=by
    cases h:pmB A B m with
    | true=>rfl
    | false=>exact absurd (hfin.2 h) hX1
   refine ab ?_;refine ab (dR fun K hK=>?_);(repeat refine eV ?_);refine cL rfl ⟨rfl,_,rfl⟩ (by omega) (by first | exact zo) (mr ⟨false,f.t1,f.o2,f.t2,false,f.t3,false,f.t4⟩ ⟨false,g.t1,g.o2,g.t2,false,g.t3,false,g.t4⟩ A B true 3 m hgA hinB (by omega) (by omega)) ?_;rintro _ rfl;(repeat refine eV ?_);have dK:=@hpm;refine aa (hK _ (au [7,88] ?_));clear hK K;refine dI ?_ ?_<;>intro hb
   ·cases hb
   ·refine af ?_;show DW _ _ _ _ _;rw [← hfin.1 hpm];refine ab (dR fun K hK=>?_);(repeat refine eV ?_);refine aa (hK _ (wK [6] ?_));clear hK K;exact ai (am Tryz.results77 (.one (.own _ _ _ _ rfl rfl (own1 (cq _ _)))) (by decide) rfl)
theorem Gy (f g:NF) (A B:Net) (w:Nat) (hgA:bg A = true) (hgB:bg B = true) (hw:w < B.ends.length) (hcA:qh A 0 = true) (hno:∀ m,pmB A B m = true → gi m 0 ≠ w):DCalls Tryz.prog 77 [.agg (be f A),.agg (be g B),.c (.p (.int .i64 w))] (fun r=>r = [.c (.p (.slice none 0 0))]):=by
 obtain ⟨hs,hn,hids,hdg⟩:=ep hgA;obtain ⟨hsB,hnB,hidsB,hdgB⟩:=ep hgB;have hinB:=gd hgB;have hX:X9 A B w []:=.inr ⟨rfl,hno⟩;refine aw Tryz.func77 rfl (by rw [Tryz.ntmps77]; simp) fun w0=>?_;rw [Tryz.ntmps77];have dX:=Uy;simp only [bw,bf,Arg.av,be,b9,ints,ends];refine ab (dR fun K hK=>?_);(repeat refine eV ?_);refine aa (hK _ (wK [2,3,4] ?_));clear hK K;refine ab (dR fun K hK=>?_)
 repeat (apply cr; (focus exact rfl); (focus (simp (disch:=first | omega | (intros; contradiction)) only [ae,bu,pZ,simprocAttr,aq,bb,ch,bn,b7,if_pos,cf,cd,cx,cw,bo,a7,ba,ky,kx ,kv]; exact rfl)))
 refine fb rfl ⟨rfl,_,rfl⟩ (by omega) (by first | exact kv) (by simp (disch:=first | omega | (intros; contradiction)) only [ae,bu,pZ,simprocAttr,aq,bb,ch,bn,b7,if_pos,cf,cd,cx,cw,bo,a7,ba,ky,kx ,kv] <;> exact rfl) (Dm true 3 (-1) A.ends.length (by omega)) ?_;rintro _ rfl
 repeat (apply cr; (focus exact rfl); (focus (simp (disch:=first | omega | (intros; contradiction)) only [ae,bu,pZ,simprocAttr,aq,bb,ch,bn,b7,if_pos,cf,cd,cx,cw,bo,a7,ba,ky,kx ,kv]; exact rfl)))
 refine aa (hK _ (wK [2,3,4,7] ?_));clear hK K;have hrl:(List.replicate A.ends.length (-1:Int)).length = A.ends.length:=List.length_replicate;have dX:=And.intro dX (And.intro @hrl @a7);refine ab (dR fun K hK=>?_);(repeat refine eV ?_);have dK:=@lv;refine aa (hK _ (au [3,4,7] ?_));clear hK K;refine ab (dR fun K hK=>?_);(repeat refine eV ?_);refine aa (hK _ (wK [3,4,7,8] ?_));clear hK K;have hq0:[[C.p (.int .i64 0)]] = ((rcR A 0).drop 0).map iC:=rfl;refine ab (ac ?_);refine ax (X:=List Int × Nat) (fun x=>x.2 ≤ (rcR A x.2).length ∧ ExM A B w (rcR A x.2) x.1 ∧ gi x.1 0 = w) (fun x=>[]) (fun x=>[((7,0),⟨none,[.sl true 3 1 (x.1.map iC)]⟩),((8,0),⟨none,[.sl true 3 1 (((rcR A x.2).drop x.2).map iC)]⟩)]) (fun x=>A.ends.length - x.2) ((List.replicate A.ends.length (-1)).set 0 (w:Int),0) ⟨Nat.zero_le _,ExM.start (by omega) hw,by rw [gy,if_pos ⟨rfl,by rw [hrl]; omega⟩]⟩ (by first | rfl | (simp only [ae,pZ,simprocAttr,Int.natCast_zero] <;> rfl)) ?_;rintro ⟨m,k⟩ ⟨hk,hI,h01⟩;intro E hE;simp only [ae,pZ,simprocAttr] at hE;subst hE;dsimp only at hk hI h01 ⊢;have h00:=h01;have hLl:=Ap hs (by omega) k;have hR:=la hs (by omega) k
 have hLs0:rcR A (k + 1) = if k < (rcR A k).length then fq (i5 A (gi (rcR A k) k).toNat (gl A.ends (gi (rcR A k) k).toNat).length) (rcR A k) (gl A.ends (gi (rcR A k) k).toNat).length else rcR A k:=rfl
 have hend:(rcR A k).length ≤ k → rcR A k = rcR A A.ends.length:=fun h=>Ni hs (by omega) h (by omega);have hml:=hI.len;obtain ⟨L,hL⟩:∃ L,L = rcR A k:=⟨_,rfl⟩;rw [← hL] at hk hI hLl hR hLs0 hend ⊢;have hdl:(L.drop k).length = L.length - k:=List.length_drop;refine ab ?_
 by_cases hkl:k < L.length
 ·rw [if_pos hkl] at hLs0
  obtain ⟨v,hv,hvn⟩:∃ v:Nat,gi L k = (v:Int) ∧ v < A.ends.length:=by
   have:=hR.rng (gi L k) (by rw [bt hkl]; exact List.getElem_mem hkl);exact ⟨(gi L k).toNat,by omega,by omega⟩
  rw [hv,Int.toNat_natCast] at hLs0;have hvL:(v:Int) ∈ L:=by rw [← hv,bt hkl]; exact List.getElem_mem hkl
  obtain ⟨u,hu,hul⟩:∃ u:Nat,gi m v = (u:Int) ∧ u < B.ends.length:=by
   have h1:=(hI.mem v hvn).2 hvL
   rcases hI.rng v hvn with h2 | h2
   ·omega
   ·exact ⟨(gi m v).toNat,by omega,by omega⟩
  obtain ⟨ws,hws⟩:∃ ws,ws = i5 A v (gl A.ends v).length:=⟨_,rfl⟩;have hLs:rcR A (k + 1) = fq ws L (gl A.ends v).length:=by rw [hLs0,hws]
  have hdv:=hdg v;have hqc:L.drop k = (v:Int) :: L.drop (k + 1):=by rw [List.drop_eq_getElem_cons hkl,← bt hkl,hv]
  have hql:(L.drop (k + 1)).length ≤ 40:=by rw [List.length_drop]; omega
  have hq1:((v:Int) :: L.drop (k + 1)).length = (L.drop (k + 1)).length + 1:=rfl;have hq2:gi ((v:Int) :: L.drop (k + 1)) 0 = (v:Int):=rfl
  have hcut:jo (iC (v:Int) :: (L.drop (k + 1)).map iC) 1 ((L.drop (k + 1)).length + 1) = (L.drop (k + 1)).map iC:=by
   unfold jo;simp [List.take_of_length_le]
  have hgt:decide ((((L.drop (k + 1)).length + 1:Nat):Int) > 0) = true:=decide_eq_true (by omega);have hA0:fq ws L 0 = L:=rfl;rw [hqc];have dX:=And.intro dX (And.intro @hq1 @hgt);refine ab (dR fun K hK=>?_);(repeat refine eV ?_);have dK:=And.intro @hq1 @hgt;refine aa (hK _ (au [3,4,7,8,23] ?_));clear hK K;refine dI ?_ ?_<;>intro hb
  ·refine af ?_;show DW _ _ _ _ _;refine ac ?_;have dX:=And.intro dX (And.intro @hq1 (And.intro @hq2 @a7));refine ab (dR fun K hK=>?_);(repeat refine eV ?_);have dK:=@hq2;refine aa (hK _ (au [3,4,7,8,9] ?_));clear hK K;have dX:=And.intro dX (@hq1);refine ab (dR fun K hK=>?_);(repeat refine eV ?_);have dK:=And.intro @ba @hcut;refine aa (hK _ (au [3,4,7,8,9] ?_));clear hK K
   by_cases hde:(gl A.ends v).length = (gl B.ends u).length
   ·refine ab ?_;have dX:=And.intro dX (And.intro @emSt7.eq_def (And.intro @hu (And.intro (Eq.symm hde) (And.intro @bne_self_eq_false.{0} @Int.toNat_natCast))));refine ab (cm emSt7 (fun j r=>match j with | _=>True) fun K hK=>?_);(repeat refine dV ?_);have dK:=And.intro @hu (And.intro (Eq.symm hde) @bne_self_eq_false.{0});refine ak (hK _ (au [3,4,7,8,9,44] ?_));clear hK K;refine dI ?_ ?_<;>intro hb
    ·cases hb
    ·refine af ?_;show DW _ _ _ _ _;have dX:=And.intro dX (@Int.toNat_natCast);refine ab (dR fun K hK=>?_);(repeat refine eV ?_);refine aa (hK _ (wK [3,4,7,8,9,49,50,51] ?_));clear hK K;refine ac ?_;refine ax (X:=List Int × Nat) (fun x=>ExM A B w (fq ws L x.2) x.1 ∧ gi x.1 0 = w ∧ x.2 ≤ (gl A.ends v).length ∧ gi x.1 v = u) (fun x=>[(51,.c (.p (.int .i64 x.2)))]) (fun x=>[((7,0),⟨none,[.sl true 3 1 (x.1.map iC)]⟩),((8,0),⟨none,[.sl true 3 1 (((fq ws L x.2).drop (k + 1)).map iC)]⟩)]) (fun x=>(gl A.ends v).length - x.2) (m,0) ⟨hI,h00,Nat.zero_le _,hu⟩ (by first | rfl | (simp only [ae,pZ,simprocAttr,Int.natCast_zero] <;> rfl)) ?_;rintro ⟨m2,j⟩ ⟨hJ,h01,hj,hu2⟩;intro E hE;simp only [ae,pZ,simprocAttr] at hE;subst hE;dsimp only at hJ h01 hj hu2 ⊢;have hm2l:=hJ.len
     have hAs:fq ws L (j + 1) = if nk (fq ws L j) (gi ws j) = true then fq ws L j else fq ws L j ++ [gi ws j]:=rfl
     have hAl:=Dj (ws:=ws) (L:=L) j;obtain ⟨L2,hL2⟩:∃ L2,L2 = fq ws L j:=⟨_,rfl⟩
     have hkl2:k + 1 ≤ L2.length:=by
      obtain ⟨M,hM⟩:=xn (ws:=ws) (L:=L) j;rw [hL2,hM,List.length_append]; omega
     rw [← hL2] at hJ hAs hAl ⊢;obtain ⟨Q2,hQ2⟩:∃ Q2,Q2 = L2.drop (k + 1):=⟨_,rfl⟩;have hQl:Q2.length ≤ 2000:=by rw [hQ2,List.length_drop]; omega
     rw [← hQ2];refine ab (dR fun K hK=>?_);(repeat refine eV ?_);refine aa (hK _ (wK [3,4,7,8,9,49,50,51,52] ?_));clear hK K;refine ab (dI (fun hb=>?_) (fun hb=>?_))
     ·have hj1:j < (gl A.ends v).length:=by simpa using hb
      obtain ⟨q1,q2,q3,q4,q5⟩:=d9 hs hvn hj1;have hwj:gi ws j = ((nd A v j:Nat):Int):=by rw [hws,Cd hj1,q5]
      have hmm:=hJ.mem (nd A v j) q1;rw [hwj] at hAs;refine af ?_;show DW _ _ _ _ _;refine ab (ac ?_);have dX:=And.intro dX (@Int.toNat_natCast);refine ab (dR fun K hK=>?_);(repeat refine eV ?_);have dK:=@q5;refine aa (hK _ (au [3,4,7,8,9,10,11,49,50,51] ?_));clear hK K;have dX:=And.intro dX (And.intro @q5 @Int.toNat_natCast);refine ab (dR fun K hK=>?_);(repeat refine eV ?_);have dK:=@q5;refine aa (hK _ (au [3,4,7,8,9,10,11,49,50,51,61] ?_));clear hK K;refine dI ?_ ?_<;>intro hb
      ·have h0:gi m2 (nd A v j) < 0:=by simpa using hb
       have hnh:nk L2 ((nd A v j:Nat):Int) = false:=Bool.eq_false_iff.2 fun h=>by
        have:=hmm.2 (gn.1 h); omega
       rw [if_neg (by rw [hnh]; decide)] at hAs;have hJ2:=hJ.step hs hsB hvn hu2 hde hj1 h0;have hdr:Q2 ++ [((nd A v j:Nat):Int)] = (fq ws L (j + 1)).drop (k + 1):=by rw [hAs,List.drop_append_of_le_length hkl2,hQ2]
       have hnv:nd A v j ≠ v:=fun e=>by rw [e] at h0; omega
       have hz0:nd A v j ≠ 0:=fun e=>by rw [e] at h0; omega
       have hgn:∀ y,y ≠ nd A v j → gi (m2.set (nd A v j) (gp (gl B.ends u) j).1) y = gi m2 y:=fun y hy=>by rw [gy,if_neg (fun hh=>hy hh.1)]
       have dX:=And.intro dX (And.intro @emSt13.eq_def (And.intro @q5 (And.intro @hu2 @Int.toNat_natCast)));refine ab (cm emSt13 (fun j r=>match j with | _=>True) fun K hK=>?_);(repeat refine dV ?_);have dK:=And.intro @q5 (And.intro @hu2 @lv);refine ak (hK _ (au [3,4,7,8,9,11,49,50,51] ?_));clear hK K;have dX:=And.intro dX (@q5);refine dR fun K hK=>?_;(repeat refine eV ?_);have dK:=And.intro @q5 (And.intro @il @hdr);refine aa (hK _ (au [3,4,7,8,9,49,50,51] ?_));clear hK K;refine dR fun K hK=>?_;(repeat refine eV ?_);have dK:=@bj;refine aa (hK _ ?_);clear hK K;show ∃ x,_ ∧ _ ∧ Weak _ _;refine ⟨(m2.set (nd A v j) (gp (gl B.ends u) j).1,j + 1),?_,?_,ay [3,4,7,8,9,49,50,51]⟩
       ·exact ⟨by rw [hAs]; exact hJ2,by rw [hgn 0 (fun e=>hz0 e.symm)]; exact h01,hj1,by rw [hgn v (fun e=>hnv e.symm)]; exact hu2⟩
       ·dsimp only; omega
      ·have h0:0 ≤ gi m2 (nd A v j):=by simpa using hb
       rw [if_pos (gn.2 (hmm.1 h0))] at hAs;have hdr:(fq ws L (j + 1)).drop (k + 1) = Q2:=by rw [hAs,hQ2]
       refine af ?_;show DW _ _ _ _ _;refine dR fun K hK=>?_;(repeat refine eV ?_);have dK:=And.intro @bj @hdr;refine aa (hK _ ?_);clear hK K;show ∃ x,_ ∧ _ ∧ Weak _ _;refine ⟨(m2,j + 1),?_,?_,ay [3,4,7,8,9,49,50,51]⟩
       ·exact ⟨by rw [hAs]; exact hJ,h01,hj1,hu2⟩
       ·dsimp only; omega
     ·have hj2:j = (gl A.ends v).length:=by
       have:¬ j < (gl A.ends v).length:=by simpa using hb
       omega
      have hLn:L2 = rcR A (k + 1):=by rw [hL2,hLs,hj2]
      have hk9:k + 1 ≤ (rcR A (k + 1)).length:=by rw [← hLn]; exact hkl2
      rw [hQ2,hLn];rw [hLn] at hJ;refine an ?_;show ∃ x,_ ∧ _ ∧ Weak _ _;refine ⟨(m2,k + 1),⟨hk9,hJ,h01⟩,?_,R5 [3,4,7,8]⟩;dsimp only;omega
   ·have hXe:=hI.none hX hvn hu hde;have e1:(((gl A.ends v).length:Int) != ((gl B.ends u).length:Int)) = true:=by rw [bne_iff_ne]; omega
    refine ab ?_;have dX:=And.intro dX (And.intro @emSt7.eq_def (And.intro @hu (And.intro @e1 @Int.toNat_natCast)));refine ab (cm emSt7 (fun j r=>match j with | _=>True) fun K hK=>?_);(repeat refine dV ?_);have dK:=And.intro @hu @e1;refine ak (hK _ (au [3,4,7,8,9,44] ?_));clear hK K;refine dI ?_ ?_<;>intro hb
    ·refine ab (dR fun K hK=>?_);(repeat refine eV ?_);refine aa (hK _ (wK [6] ?_));clear hK K;exact ai (am Tryz.results77 (.one (.plain _ _ rfl)) (by decide) rfl)
    ·cases hb
  ·cases hb
 ·have hke:L.length = k:=by omega
  have hq0:L.drop k = []:=List.drop_eq_nil_of_le (by omega);have hLe:=hend (by omega)
  have hall:∀ x:Nat,x < A.ends.length → (x:Int) ∈ L:=fun x hx=>by
   have hlen:=(Ik hs (show 0 < A.ends.length by omega)).2 hcA;have hRn:=la hs (show 0 < A.ends.length by omega) A.ends.length;have hp:=pe _ _ hRn.nod (fun y hy=>⟨(hRn.rng y hy).1,(hRn.rng y hy).2.1⟩) hlen;rw [hLe];exact hp.mem_iff.2 (ja.2 ⟨by omega,by omega⟩)
  have hfin:=hI.done hX h01 hall;rw [hq0];refine ab (dR fun K hK=>?_);(repeat refine eV ?_);refine aa (hK _ (wK [3,4,7,8,23] ?_));clear hK K;refine dI ?_ ?_<;>intro hb
  ·cases hb
  ·refine an ?_;refine wK [3,4,7] ?_
   have hpm:pmB A B m = false:=by
    cases h:pmB A B m with
    | false=>rfl
    | true=>exact absurd h01 (hno m h)
   refine ab ?_;refine ab (dR fun K hK=>?_);(repeat refine eV ?_);refine cL rfl ⟨rfl,_,rfl⟩ (by omega) (by first | exact zo) (mr ⟨false,f.t1,f.o2,f.t2,false,f.t3,false,f.t4⟩ ⟨false,g.t1,g.o2,g.t2,false,g.t3,false,g.t4⟩ A B true 3 m hgA hinB (by omega) (by omega)) ?_;rintro _ rfl;(repeat refine eV ?_);have dK:=@hpm;refine aa (hK _ (au [7,88] ?_));clear hK K;refine dI ?_ ?_<;>intro hb
   ·refine ab (dR fun K hK=>?_);(repeat refine eV ?_);refine aa (hK _ (wK [6] ?_));clear hK K;exact ai (am Tryz.results77 (.one (.plain _ _ rfl)) (by decide) rfl)
   ·cases hb
end
section
set_option maxHeartbeats 0
set_option maxRecDepth 8000
open Go Go.RowKit
def coMapSt6:Nat → Stat
 | 0=>⟨[8],[],[],[34],[],[]⟩
 | 1=>⟨[34],[],[],[35],[],[]⟩
 | 2=>⟨[4],[(4,1)],[],[36],[],[]⟩
 | 3=>⟨[36],[(4,1)],[],[37],[],[]⟩
 | 4=>⟨[2],[],[],[38],[],[]⟩
 | 5=>⟨[7],[],[],[39],[],[]⟩
 | 6=>⟨[38,39],[],[],[40],[],[]⟩
 | 7=>⟨[40],[],[],[41],[],[]⟩
 | 8=>⟨[37,41],[],[],[42],[],[]⟩
 | 9=>⟨[42],[],[],[43],[],[]⟩
 | 10=>⟨[43],[],[],[44],[],[]⟩
 | 11=>⟨[35,44],[],[],[45],[],[]⟩
 | 12=>⟨[45],[],[],[46],[],[]⟩
 | 13=>⟨[3,46],[(3,1)],[],[47],[],[]⟩
 | 14=>⟨[47,46],[(3,1)],[],[48],[],[]⟩
 | 15=>⟨[7,46],[],[],[49],[],[]⟩
 | 16=>⟨[48,49,46],[],[],[50],[],[]⟩
 | 17=>⟨[50,46],[],[],[51],[],[]⟩
 | 18=>⟨[4,46],[(4,1)],[],[52],[],[]⟩
 | 19=>⟨[52,46],[(4,1)],[],[53],[],[]⟩
 | 20=>⟨[2,46],[],[],[54],[],[]⟩
 | 21=>⟨[7,46],[],[],[55],[],[]⟩
 | 22=>⟨[54,55,46],[],[],[56],[],[]⟩
 | 23=>⟨[56,46],[],[],[57],[],[]⟩
 | 24=>⟨[53,57,46],[],[],[58],[],[]⟩
 | 25=>⟨[58,46],[],[],[59],[],[]⟩
 | 26=>⟨[51,59,46],[],[],[60],[],[]⟩
 | 27=>⟨[46,60],[],[],[61],[],[]⟩
 | _=>⟨[],[],[],[],[],[]⟩
def y7:Nat → Stat
 | 0=>⟨[4],[(4,1)],[],[69],[],[]⟩
 | 1=>⟨[69],[(4,1)],[],[70],[],[]⟩
 | 2=>⟨[2],[],[],[71],[],[]⟩
 | 3=>⟨[7],[],[],[72],[],[]⟩
 | 4=>⟨[71,72],[],[],[73],[],[]⟩
 | 5=>⟨[73],[],[],[74],[],[]⟩
 | 6=>⟨[70,74],[],[],[75],[],[]⟩
 | 7=>⟨[75],[],[],[76],[],[]⟩
 | 8=>⟨[9],[],[],[77],[],[]⟩
 | 9=>⟨[76,77],[],[],[78],[],[]⟩
 | 10=>⟨[78],[],[],[79],[],[]⟩
 | 11=>⟨[2],[],[],[80],[],[]⟩
 | 12=>⟨[10],[(10,1)],[],[81],[],[]⟩
 | 13=>⟨[81],[(10,1)],[],[82],[],[]⟩
 | 14=>⟨[80,82],[],[],[83],[],[]⟩
 | 15=>⟨[83],[],[],[84],[],[]⟩
 | 16=>⟨[10],[(10,1)],[],[85],[],[]⟩
 | 17=>⟨[85],[(10,1)],[],[86],[],[]⟩
 | 18=>⟨[84,86],[],[],[87],[],[]⟩
 | 19=>⟨[79,87],[],[],[88],[],[]⟩
 | _=>⟨[],[],[],[],[],[]⟩
def zBBs31:=PLift.up (And.intro aq (And.intro @netO.eq_1 (And.intro @cf (And.intro bn (And.intro b7 (And.intro cd (And.intro ch (And.intro bb (And.intro ee (And.intro @if_pos.{1} (And.intro @cx (And.intro @cw (And.intro @bo (And.intro @a7 (And.intro @ba (And.intro @df (And.intro @ek @trivial)))))))))))))))))
theorem L7:type_of% zBBs31.down:=zBBs31.down
theorem Xw (f g:NF) (A B:Net) (o:Bool) (t:TypeId) (m:List Int) (hg:bg A = true) (hB:B.inputs.length = B.ends.length) (hBl:B.ends.length ≤ 100000) (hl:m.length ≤ 1000000):DCalls Tryz.prog 130 [.agg (be f A),.agg (be g B),.c (.sl o t 1 (m.map iC))] (fun r=>r = [.c (.p (.bool (pmB A B m)))]):=by
 obtain ⟨hs,hn,hids,hdg⟩:=ep hg;have hin:=gd hg;refine aw Tryz.func130 rfl (by rw [Tryz.ntmps130]; simp) fun w0=>?_;rw [Tryz.ntmps130];have dX:=L7;simp only [bw,bf,Arg.av,be,b9,ints,ends];refine ab (dR fun K hK=>?_);(repeat refine eV ?_);refine aa (hK _ (wK [2,3,4] ?_));clear hK K
 by_cases hml:m.length = A.ends.length
 ·have hm9:=hml;refine ab ?_;have dX:=And.intro dX (And.intro @hml @bne_self_eq_false.{0});refine ab (dR fun K hK=>?_);(repeat refine eV ?_);have dX:=And.intro dX (And.intro @hml @bne_self_eq_false.{0});refine cgF rfl rfl ⟨rfl,_,rfl⟩ (by omega) (by first | exact Tm) (Of o t m 0 ((B.ends.length:Int) - 1)) ?_;rintro _ rfl;(repeat refine eV ?_);obtain hm1 | hm1:=Bool.eq_false_or_eq_true (qq m 0 ((B.ends.length:Int) - 1))
  ·have hmr:∀ v,v < A.ends.length → ∃ u:Nat,gi m v = (u:Int) ∧ u < B.ends.length:=fun v hv=>by
    have h5:=List.all_eq_true.1 hm1 (gi m v) (by rw [bt (by omega)]; exact List.getElem_mem (by omega));have:=db.1 h5;exact ⟨(gi m v).toNat,by omega,by omega⟩
   have dX:=And.intro dX (And.intro @hml (And.intro @bne_self_eq_false.{0} @hm1));(repeat refine eV ?_);have dK:=And.intro @hml (And.intro @bne_self_eq_false.{0} @hm1);refine aa (hK _ (au [2,3,4,25] ?_));clear hK K;refine dI ?_ ?_<;>intro hb
   ·cases hb
   ·refine af ?_;show DW _ _ _ _ _;refine ab ?_;refine ab (dR fun K hK=>?_);(repeat refine eV ?_);refine aa (hK _ (wK [2,3,4,27,28,29] ?_));clear hK K;refine ac ?_;refine ax (X:=Nat) (fun v=>v ≤ A.ends.length ∧ ∀ u,u < v → pmV A B m u = false) (fun v=>[(29,.c (.p (.int .i64 v)))]) (fun v=>[]) (fun v=>A.ends.length - v) 0 ⟨Nat.zero_le _,fun u hu=>absurd hu (Nat.not_lt_zero u)⟩ (by first | rfl | (simp only [ae,pZ,simprocAttr,Int.natCast_zero] <;> rfl)) ?_;rintro v ⟨hv,hbef⟩;intro E hE;simp only [ae,pZ,simprocAttr] at hE;subst hE;refine ab (dR fun K hK=>?_);(repeat refine eV ?_);refine aa (hK _ (wK [2,3,4,27,28,29,30] ?_));clear hK K;refine ab (dI (fun hb=>?_) (fun hb=>?_))
    ·have hv1:v < A.ends.length:=by simpa using hb
     obtain ⟨u,hu,hul⟩:=hmr v hv1;have hpn:=o9 (A:=A) (B:=B) (m:=m) (v:=v);rw [hu,Int.toNat_natCast] at hpn;have hdv:=hdg v;refine af ?_;show DW _ _ _ _ _;refine ab (ac ?_);have dX:=And.intro dX (@Int.toNat_natCast);refine ab (dR fun K hK=>?_);(repeat refine eV ?_);refine aa (hK _ (wK [2,3,4,7,8,27,28,29] ?_));clear hK K
     by_cases p1:(gl A.ends v).length = (gl B.ends u).length
     ·by_cases p2:gi A.inputs v = gi B.inputs u
      ·refine ab ?_;have dX:=And.intro dX (And.intro @coMapSt6.eq_def (And.intro @hu (And.intro (Eq.symm p1) (And.intro (Eq.symm p2) (And.intro @bne_self_eq_false.{0} @Int.toNat_natCast)))));refine ab (cm coMapSt6 (fun j r=>match j with | _=>True) fun K hK=>?_);(repeat refine dV ?_);have dK:=And.intro @hu (And.intro (Eq.symm p1) (And.intro (Eq.symm p2) @bne_self_eq_false.{0}));refine ak (hK _ (au [2,3,4,7,8,27,28,29,61] ?_));clear hK K;refine dI ?_ ?_<;>intro hb
       ·cases hb
       ·refine af ?_;show DW _ _ _ _ _;have dX:=And.intro dX (@Int.toNat_natCast);refine ab (dR fun K hK=>?_);(repeat refine eV ?_);refine aa (hK _ (wK [2,3,4,7,27,28,29,62,63,64] ?_));clear hK K;refine ac ?_;refine ax (X:=Nat) (fun i=>i ≤ (gl A.ends v).length ∧ ∀ j,j < i → gp (gl B.ends u) j = (gi m (gp (gl A.ends v) j).1.toNat,(gp (gl A.ends v) j).2)) (fun i=>[(64,.c (.p (.int .i64 i)))]) (fun i=>[]) (fun i=>(gl A.ends v).length - i) 0 ⟨Nat.zero_le _,fun j hj=>absurd hj (Nat.not_lt_zero j)⟩ (by first | rfl | (simp only [ae,pZ,simprocAttr,Int.natCast_zero] <;> rfl)) ?_;rintro i ⟨hi,hbi⟩;intro E hE;simp only [ae,pZ,simprocAttr] at hE;subst hE;refine ab (dR fun K hK=>?_);(repeat refine eV ?_);refine aa (hK _ (wK [2,3,4,7,27,28,29,62,63,64,65] ?_));clear hK K;refine ab (dI (fun hb=>?_) (fun hb=>?_))
        ·have hi1:i < (gl A.ends v).length:=by simpa using hb
         have hi2:i < (gl B.ends u).length:=by omega
         obtain ⟨q1,q2,q3,q4,q5⟩:=d9 hs hv1 hi1;refine af ?_;show DW _ _ _ _ _;refine ab (ac ?_);have dX:=And.intro dX (@Int.toNat_natCast);refine ab (dR fun K hK=>?_);(repeat refine eV ?_);refine aa (hK _ (wK [2,3,4,7,9,10,27,28,29,62,63,64] ?_));clear hK K;obtain ⟨b1,hb1⟩:∃ b1,((gp (gl B.ends u) i).1 == gi m (nd A v i)) = b1:=⟨_,rfl⟩;obtain ⟨b2,hb2⟩:∃ b2,((gp (gl B.ends u) i).2 == (bk A v i:Int)) = b2:=⟨_,rfl⟩
         have hbb:(b1 && b2) = true ↔ gp (gl B.ends u) i = (gi m (gp (gl A.ends v) i).1.toNat,(gp (gl A.ends v) i).2):=by
          rw [q5,Bool.and_eq_true,← hb1,← hb2,beq_iff_eq,beq_iff_eq,Prod.ext_iff];exact Iff.rfl
         have hbt:(b1 && (b2 && true)) = (b1 && b2):=by rw [Bool.and_true]
         obtain ⟨b3,hb3⟩:∃ b3,(b1 && b2) = b3:=⟨_,rfl⟩;rw [hb3] at hbb hbt;refine ab (cm y7 (fun j r=>match j with | _=>True) fun K hK=>?_)
         repeat (apply A6; (focus exact rfl); (focus simp (disch:=first | omega | (intros; contradiction)) only [ae,bu,qo,pZ,simprocAttr,aq,netO,cf,bn,b7,cd,ch,bb,ee,if_pos,cx,cw,bo,a7,ba,df,ek ,y7,hu,q5,hb1,hb2,hb3,hbt,hml,C0,Int.toNat_natCast]); (focus (simp (disch:=first | omega | (intros; contradiction)) only [ae,bu,pZ,simprocAttr,aq,netO,cf,bn,b7,cd,ch,bb,ee,if_pos,cx,cw,bo,a7,ba,df,ek ,y7,hu,q5,hb1,hb2,hb3,hbt,hml,C0,Int.toNat_natCast]; exact rfl)))
         have dK:=And.intro @hu (And.intro @q5 (And.intro @hb1 (And.intro @hb2 (And.intro @hb3 @hbt))));refine ak (hK _ (au [2,3,4,7,27,28,29,62,63,64,88] ?_));clear hK K
         cases b3 with
         | true =>
          have hok:=hbb.1 rfl;refine dI ?_ ?_<;>intro hb
          ·cases hb
          ·refine af ?_;show DW _ _ _ _ _;refine dR fun K hK=>?_;(repeat refine eV ?_);have dK:=@bj;refine aa (hK _ ?_);clear hK K;show ∃ x,_ ∧ _ ∧ Weak _ _;refine ⟨i + 1,?_,?_,ay [2,3,4,7,27,28,29,62,63,64]⟩
           ·refine ⟨hi1,fun j hj=>?_⟩
            by_cases h:j = i
            ·rw [h]; exact hok
            ·exact hbi j (by omega)
           ·omega
         | false =>
          have hbad:pmB A B m = false:=yg hv1 fun h=>by
           have:=hbb.2 ((hpn.1 h).2.2 i hi1);cases this
          refine dI ?_ ?_<;>intro hb
          ·refine ab (dR fun K hK=>?_);(repeat refine eV ?_);refine aa (hK _ (wK [6] ?_));clear hK K;exact ai (am Tryz.results130 (.one (.plain _ _ rfl)) (by decide) (by rw [hbad]))
          ·cases hb
        ·have hi2:i = (gl A.ends v).length:=by
          have:¬ i < (gl A.ends v).length:=by simpa using hb
          omega
         have hvg:pmV A B m v = false:=hpn.2 ⟨p1,p2,fun j hj=>hbi j (by omega)⟩;refine an ?_;refine bd [2,3,4,27,28,29] (by simp only [ae,pZ,simprocAttr]; exact rfl) ?_;refine dR fun K hK=>?_;(repeat refine eV ?_);have dK:=@bj;refine aa (hK _ ?_);clear hK K;show ∃ x,_ ∧ _ ∧ Weak _ _;refine ⟨v + 1,?_,?_,ay [2,3,4,27,28,29]⟩
         ·refine ⟨hv1,fun u2 hu2=>?_⟩
          by_cases h:u2 = v
          ·rw [h]; exact hvg
          ·exact hbef u2 (by omega)
         ·omega
      ·have hbad:pmB A B m = false:=yg hv1 fun h=>p2 (hpn.1 h).2.1;have e2:(gi A.inputs v != gi B.inputs u) = true:=by rw [bne_iff_ne]; exact p2
       refine ab ?_;have dX:=And.intro dX (And.intro @coMapSt6.eq_def (And.intro @hu (And.intro (Eq.symm p1) (And.intro @e2 (And.intro @bne_self_eq_false.{0} @Int.toNat_natCast)))));refine ab (cm coMapSt6 (fun j r=>match j with | _=>True) fun K hK=>?_);(repeat refine dV ?_);have dK:=And.intro @hu (And.intro (Eq.symm p1) (And.intro @e2 @bne_self_eq_false.{0}));refine ak (hK _ (au [2,3,4,7,8,27,28,29,61] ?_));clear hK K;refine dI ?_ ?_<;>intro hb
       ·refine ab (dR fun K hK=>?_);(repeat refine eV ?_);refine aa (hK _ (wK [6] ?_));clear hK K;exact ai (am Tryz.results130 (.one (.plain _ _ rfl)) (by decide) (by rw [hbad]))
       ·cases hb
     ·have hbad:pmB A B m = false:=yg hv1 fun h=>p1 (hpn.1 h).1;have e1:(((gl A.ends v).length:Int) != ((gl B.ends u).length:Int)) = true:=by rw [bne_iff_ne]; omega
      refine ab ?_;have dX:=And.intro dX (And.intro @coMapSt6.eq_def (And.intro @hu (And.intro @e1 @Int.toNat_natCast)));refine ab (cm coMapSt6 (fun j r=>match j with | _=>True) fun K hK=>?_);(repeat refine dV ?_);have dK:=And.intro @hu @e1;refine ak (hK _ (au [2,3,4,7,8,27,28,29,61] ?_));clear hK K;refine dI ?_ ?_<;>intro hb
      ·refine ab (dR fun K hK=>?_);(repeat refine eV ?_);refine aa (hK _ (wK [6] ?_));clear hK K;exact ai (am Tryz.results130 (.one (.plain _ _ rfl)) (by decide) (by rw [hbad]))
      ·cases hb
    ·have hv2:v = A.ends.length:=by
      have:¬ v < A.ends.length:=by simpa using hb
      omega
     have hgood:pmB A B m = true:=gw.2 ⟨hml,fun v hv=>by obtain ⟨u,hu,hul⟩:=hmr v hv; rw [hu]; omega,fun v hv=>hbef v (by omega)⟩;refine an ?_;refine bd [] (by simp only [ae,pZ,simprocAttr]; exact rfl) ?_;refine ab (dR fun K hK=>?_);(repeat refine eV ?_);refine aa (hK _ (wK [6] ?_));clear hK K;exact ai (am Tryz.results130 (.one (.plain _ _ rfl)) (by decide) (by rw [hgood]))
  ·have hbad:pmB A B m = false:=S6 hm1;have dX:=And.intro dX (And.intro @hml (And.intro @bne_self_eq_false.{0} @hm1));(repeat refine eV ?_);have dK:=And.intro @hml (And.intro @bne_self_eq_false.{0} @hm1);refine aa (hK _ (au [2,3,4,25] ?_));clear hK K;refine dI ?_ ?_<;>intro hb
   ·refine ab (dR fun K hK=>?_);(repeat refine eV ?_);refine aa (hK _ (wK [6] ?_));clear hK K;exact ai (am Tryz.results130 (.one (.plain _ _ rfl)) (by decide) (by rw [hbad]))
   ·cases hb
 ·have hbad:pmB A B m = false:=S7 hml;have hne:((m.length:Int) != (A.ends.length:Int)) = true:=by rw [bne_iff_ne]; omega
  refine ab ?_;have dX:=And.intro dX (@hne);refine ab (dR fun K hK=>?_);(repeat refine eV ?_);have dX:=And.intro dX (@hne);refine csF ?_;(repeat refine eV ?_);have dX:=And.intro dX (@hne);(repeat refine eV ?_);have dK:=@hne;refine aa (hK _ (au [2,3,4,25] ?_));clear hK K;refine dI ?_ ?_<;>intro hb
  ·refine ab (dR fun K hK=>?_);(repeat refine eV ?_);refine aa (hK _ (wK [6] ?_));clear hK K;exact ai (am Tryz.results130 (.one (.plain _ _ rfl)) (by decide) (by rw [hbad]))
  ·cases hb
theorem Q4 (f g:NF) (A B:Net) (o:Bool) (t:TypeId) (m:List Int) (hl:m.length ≤ 1000000):DCalls Tryz.prog 84 [.agg (be f A),.agg (be g B),.c (.sl o t 1 (m.map iC))] (fun r=>r = [.c (.p (.bool (bg A && bg B && pmB A B m)))]):=by
 refine aw Tryz.func84 rfl (by rw [Tryz.ntmps84]; simp) fun w0=>?_;rw [Tryz.ntmps84];have dX:=L7;simp only [bw,bf,Arg.av,be,b9,ints,ends];refine ab (dR fun K hK=>?_);(repeat refine eV ?_);refine aa (hK _ (wK [2,3,4] ?_));clear hK K;refine ab (dR fun K hK=>?_);(repeat refine eV ?_);refine cL rfl ⟨rfl,_,rfl⟩ (by omega) (by first | exact zp | exact Lk) (n8 ⟨false,f.t1,f.o2,f.t2,false,f.t3,false,f.t4⟩ A) ?_;rintro _ rfl;(repeat refine eV ?_);obtain hA | hA:=Bool.eq_false_or_eq_true (bg A)
 ·have dX:=And.intro dX (@hA);(repeat refine eV ?_);have dX:=And.intro dX (@hA);refine cgF rfl rfl ⟨rfl,_,rfl⟩ (by omega) (by first | exact zp | exact Lk) (n8 ⟨false,g.t1,g.o2,g.t2,false,g.t3,false,g.t4⟩ B) ?_;rintro _ rfl;(repeat refine eV ?_);obtain hB | hB:=Bool.eq_false_or_eq_true (bg B)
  ·have hBn:=jf hB;have dX:=And.intro dX (And.intro @hA @hB);(repeat refine eV ?_);have dX:=And.intro dX (And.intro @hA @hB);refine cgF rfl rfl ⟨rfl,_,rfl⟩ (by omega) (by first | exact zp | exact Lk) (Xw ⟨false,f.t1,f.o2,f.t2,false,f.t3,false,f.t4⟩ ⟨false,g.t1,g.o2,g.t2,false,g.t3,false,g.t4⟩ A B o t m hA (gd hB) (by omega) hl) ?_;rintro _ rfl;(repeat refine eV ?_);have dX:=And.intro dX (And.intro @hA @hB);(repeat refine eV ?_);have dK:=And.intro @hA @hB;refine aa (hK _ (au [6] ?_));clear hK K;exact ai (am Tryz.results84 (.one (.plain _ _ rfl)) (by decide) (by rw [hA,hB]; rfl))
  ·have dX:=And.intro dX (And.intro @hA @hB);(repeat refine eV ?_);have dX:=And.intro dX (And.intro @hA @hB);refine csF ?_;(repeat refine eV ?_);have dX:=And.intro dX (And.intro @hA @hB);(repeat refine eV ?_);have dK:=And.intro @hA @hB;refine aa (hK _ (au [6] ?_));clear hK K;exact ai (am Tryz.results84 (.one (.plain _ _ rfl)) (by decide) (by rw [hA,hB]; rfl))
 ·have dX:=And.intro dX (@hA);(repeat refine eV ?_);have dX:=And.intro dX (@hA);refine csF ?_;(repeat refine eV ?_);have dX:=And.intro dX (@hA);(repeat refine eV ?_);have dX:=And.intro dX (@hA);refine csF ?_;(repeat refine eV ?_);have dX:=And.intro dX (@hA);(repeat refine eV ?_);have dK:=@hA;refine aa (hK _ (au [6] ?_));clear hK K;exact ai (am Tryz.results84 (.one (.plain _ _ rfl)) (by decide) (by rw [hA]; rfl))
def coQuotientSt9:Nat → Stat
 | 0=>⟨[9],[],[],[32],[],[]⟩
 | 1=>⟨[1],[],[],[33],[],[]⟩
 | 2=>⟨[11],[(11,1)],[],[34],[],[]⟩
 | 3=>⟨[34],[(11,1)],[],[35],[],[]⟩
 | 4=>⟨[33,35],[],[],[36],[],[]⟩
 | 5=>⟨[36],[],[],[37],[],[]⟩
 | 6=>⟨[11],[(11,1)],[],[38],[],[]⟩
 | 7=>⟨[38],[(11,1)],[],[39],[],[]⟩
 | 8=>⟨[37,39],[],[],[40],[],[]⟩
 | 9=>⟨[40],[],[],[41],[],[]⟩
 | 10=>⟨[32,41],[(9,1),(41,1)],[9,41],[42],[(9,1)],[]⟩
 | 11=>⟨[42],[],[42],[9],[(42,1)],[]⟩
 | _=>⟨[],[],[],[],[],[]⟩
def coQuotientSt11:Nat → Stat
 | 0=>⟨[7],[(7,1)],[],[44],[],[]⟩
 | 1=>⟨[44],[(7,1)],[],[45],[],[]⟩
 | 2=>⟨[1],[],[],[46],[],[]⟩
 | 3=>⟨[8],[],[],[47],[],[]⟩
 | 4=>⟨[46,47],[],[],[48],[],[]⟩
 | 5=>⟨[48],[],[],[49],[],[]⟩
 | 6=>⟨[9],[],[],[50],[],[]⟩
 | 7=>⟨[45,49],[(7,1)],[],[51],[],[]⟩
 | 8=>⟨[51,50],[(7,2)],[9],[],[(7,2),(9,1)],[]⟩
 | _=>⟨[],[],[],[],[],[]⟩
def coQuotientSt12:Nat → Stat
 | 0=>⟨[7],[(7,1)],[],[52],[],[]⟩
 | 1=>⟨[52],[(7,1)],[],[53],[],[]⟩
 | 2=>⟨[1],[],[],[54],[],[]⟩
 | 3=>⟨[8],[],[],[55],[],[]⟩
 | 4=>⟨[54,55],[],[],[56],[],[]⟩
 | 5=>⟨[56],[],[],[57],[],[]⟩
 | 6=>⟨[3],[(3,1)],[],[58],[],[]⟩
 | 7=>⟨[58],[(3,1)],[],[59],[],[]⟩
 | 8=>⟨[8],[],[],[60],[],[]⟩
 | 9=>⟨[59,60],[],[],[61],[],[]⟩
 | 10=>⟨[61],[],[],[62],[],[]⟩
 | 11=>⟨[53,57],[(7,1)],[],[63],[],[]⟩
 | 12=>⟨[63,62],[(7,2)],[],[],[(7,2)],[]⟩
 | _=>⟨[],[],[],[],[],[]⟩
def cqN (N:Net) (cls:List Int) (m j:Nat):Net:=⟨cqE N cls m j,[],cqI N cls m j⟩
theorem U4 (N:Net) (cls:List Int) (m:Nat):dn m = cqN N cls m 0:=rfl
theorem Hb (N:Net) (cls:List Int) (u:Nat):(clE N cls u).length = (gl N.ends u).length:=by simp [clE]
theorem Vb {N:Net} {cls:List Int} {u i:Nat} (h:i < (gl N.ends u).length):(clE N cls u).take i ++ [(gi cls (gp (gl N.ends u) i).1.toNat,(gp (gl N.ends u) i).2)] = (clE N cls u).take (i + 1):=by
 rw [List.take_add_one];unfold clE;simp only [List.getElem?_map,List.getElem?_eq_getElem h,Option.map_some,Option.toList];rw [← gb h]
theorem xh (f:NF) (N:Net) (o:Bool) (t:TypeId) (cls:List Int) (m:Nat) (hs:Sym N.ends) (hin:N.inputs.length = N.ends.length) (hn:N.ends.length ≤ 1000) (hdg:∀ v,(gl N.ends v).length ≤ 1000) (hm:m ≤ 1000) (hl:cls.length = N.ends.length) (hc:∀ v,v < N.ends.length → 0 ≤ gi cls v ∧ gi cls v < m):DCalls Tryz.prog 83 [.agg (be f N),.c (.sl o t 1 (cls.map iC)),.c (.p (.int .i64 m))] (fun r=>r = [.own true (netO (cqN N cls m N.ends.length))]):=by
 refine aw Tryz.func83 rfl (by rw [Tryz.ntmps83]; simp) fun w0=>?_;rw [Tryz.ntmps83];have dX:=L7;simp only [bw,bf,Arg.av,be,b9,ints,ends];refine ab (dR fun K hK=>?_);(repeat refine eV ?_);refine aa (hK _ (wK [1,2,3,6] ?_));clear hK K;refine ab (dR fun K hK=>?_);(repeat refine eV ?_);refine cL rfl ⟨rfl,_,rfl⟩ (by omega) (by first | exact nj) (js m (by omega)) ?_;rintro _ rfl;(repeat refine eV ?_);refine aa (hK _ (bd [1,3,6,7] (by simp only [ae,pZ,simprocAttr ,netO,U4 N cls m]; exact rfl) ?_));clear hK K;refine ab ?_;refine ab (dR fun K hK=>?_);(repeat refine eV ?_);refine aa (hK _ (wK [1,3,6,7,8] ?_));clear hK K;have hjj:N.ends.length - N.ends.length = 0:=Nat.sub_self _;refine ac ?_;refine ax (X:=Nat) (fun v1=>v1 ≤ N.ends.length) (fun v1=>[(8,.c (.p (.int .i64 ((v1:Int) - 1))))]) (fun v1=>[((7,0),⟨some 31,[.sl true 95 1 ((cqE N cls m (N.ends.length - v1)).map (esC 97)),.sl true 3 1 (([]:List Int).map iC),.sl true 3 1 ((cqI N cls m (N.ends.length - v1)).map iC)]⟩)]) (fun v1=>v1) N.ends.length (Nat.le_refl _) (by first | rfl | (simp only [ae,pZ,simprocAttr,Int.natCast_zero,hjj,cqN] <;> rfl)) ?_;rintro v1 hv1;intro E hE;simp only [ae,pZ,simprocAttr] at hE;subst hE;obtain ⟨E,hE⟩:∃ E,E = cqE N cls m (N.ends.length - v1):=⟨_,rfl⟩;obtain ⟨I,hI⟩:∃ I,I = cqI N cls m (N.ends.length - v1):=⟨_,rfl⟩;have hEl:E.length = m:=by rw [hE]; exact pu _
 have hIl:I.length = m:=by rw [hI]; exact sw _
 have hz:v1 = 0 → E = cqE N cls m N.ends.length ∧ I = cqI N cls m N.ends.length:=fun h=>by subst h; exact ⟨hE,hI⟩
 have hnx:∀ v,v1 = v + 1 → E.set (gi cls v).toNat (clE N cls v) = cqE N cls m (N.ends.length - v) ∧ I.set (gi cls v).toNat (gi N.inputs v) = cqI N cls m (N.ends.length - v):=fun v h=>by
  have e1:N.ends.length - v = (N.ends.length - v1) + 1:=by omega
  have e2:N.ends.length - 1 - (N.ends.length - v1) = v:=by omega
  rw [e1,cqE,cqI,e2,← hE,← hI];exact ⟨rfl,rfl⟩
 rw [← hE,← hI];refine ab ?_;refine ab (dR fun K hK=>?_);(repeat refine eV ?_);refine aa (hK _ (wK [1,3,6,7,8,19] ?_));clear hK K;refine dI ?_ ?_<;>intro hb
 ·obtain ⟨v,hvv⟩:∃ v,v1 = v + 1:=⟨v1 - 1,by
   have h:(0:Int) ≤ (v1:Int) - 1:=by simpa using hb
   omega⟩
  obtain ⟨hnE,hnI⟩:=hnx v hvv
  obtain ⟨c,hcv,hcm⟩:∃ c:Nat,gi cls v = (c:Int) ∧ c < m:=by
   have:=hc v (by omega);exact ⟨(gi cls v).toNat,by omega,by omega⟩
  have hvn:v < N.ends.length:=by omega
  have hdv:=hdg v;have hkc:(v1:Int) - 1 = (v:Int):=by omega
  rw [hcv,Int.toNat_natCast] at hnE hnI;refine af ?_;show DW _ _ _ _ _;refine ab (ac ?_);refine ab (dR fun K hK=>?_);(repeat refine eV ?_);refine aa (hK _ (wK [1,3,6,7,8,9] ?_));clear hK K;refine ab ?_;have dX:=And.intro dX (And.intro @hkc @Int.toNat_natCast);refine ab (dR fun K hK=>?_);(repeat refine eV ?_);have dK:=And.intro @hkc @Int.toNat_natCast;refine aa (hK _ (au [1,3,6,7,8,9,26,27,28] ?_));clear hK K;refine ac ?_;refine pm 9 97 2 (by decide) (by simp only [ae,pZ,simprocAttr]) [1,3,6,7,8,9,26,27,28] (by simp only [ae,pZ,simprocAttr]; exact rfl) ?_;refine ax (X:=Nat) (fun i=>i ≤ (gl N.ends v).length) (fun i=>[(28,.c (.p (.int .i64 i)))]) (fun i=>[((9,0),⟨none,[.sl true 97 2 (((clE N cls v).take i).map eC)]⟩)]) (fun i=>(gl N.ends v).length - i) 0 (Nat.zero_le _) (by first | rfl | (simp only [ae,pZ,simprocAttr,Int.natCast_zero,List.take_zero,List.map_nil] <;> rfl)) ?_;rintro i hi;intro E hE;simp only [ae,pZ,simprocAttr] at hE;subst hE;have htl:((clE N cls v).take i).length = i:=by rw [List.length_take,Hb]; omega
  obtain ⟨K,hK⟩:∃ K,K = (clE N cls v).take i:=⟨_,rfl⟩;rw [← hK] at htl ⊢;refine ab (dR fun K hK=>?_);(repeat refine eV ?_);refine aa (hK _ (wK [1,3,6,7,8,9,26,27,28,29] ?_));clear hK K;refine ab (dI (fun hb=>?_) (fun hb=>?_))
  ·have hi1:i < (gl N.ends v).length:=by simpa using hb
   obtain ⟨q1,q2,q3,q4,q5⟩:=d9 hs hvn hi1;have htk:=Vb (cls:=cls) hi1;rw [← hK,q5,show ((nd N v i:Int),(bk N v i:Int)).1.toNat = nd N v i from Int.toNat_natCast _] at htk;refine af ?_;show DW _ _ _ _ _;refine ab (ac ?_);have dX:=And.intro dX (And.intro @Int.toNat_natCast @q5);refine ab (dR fun K hK=>?_);(repeat refine eV ?_);have dK:=@q5;refine aa (hK _ (au [1,3,6,7,8,9,11,26,27,28] ?_));clear hK K;have dX:=And.intro dX (And.intro @coQuotientSt9.eq_def (And.intro @q5 @Int.toNat_natCast));refine cm coQuotientSt9 (fun j r=>match j with | _=>True) fun K hK=>?_;(repeat refine dV ?_);have dK:=And.intro @q5 (And.intro @jb @htk);refine ak (hK _ (au [1,3,6,7,8,9,26,27,28] ?_));clear hK K;refine dR fun K hK=>?_;(repeat refine eV ?_);have dK:=@bj;refine aa (hK _ ?_);clear hK K;show ∃ x,_ ∧ _ ∧ Weak _ _;refine ⟨i + 1,?_,?_,ay [1,3,6,7,8,9,26,27,28]⟩
   ·omega
   ·omega
  ·have hi2:i = (gl N.ends v).length:=by
    have:¬ i < (gl N.ends v).length:=by simpa using hb
    omega
   have hKf:K = clE N cls v:=by rw [hK,hi2,← Hb N cls v,List.take_length]
   rw [hKf];refine an ?_;refine bd [1,3,6,7,8,9] (by simp only [ae,pZ,simprocAttr]; exact rfl) ?_;have dX:=And.intro dX (And.intro @coQuotientSt11.eq_def (And.intro @hkc (And.intro @hcv (And.intro @ef (And.intro @jr (And.intro @hEl @Int.toNat_natCast))))));refine ab (cm coQuotientSt11 (fun j r=>match j with | _=>True) fun K hK=>?_);(repeat refine dV ?_);have dK:=And.intro @hkc (And.intro @hcv (And.intro @Gz @hnE));refine ak (hK _ (au [1,3,6,7,8] ?_));clear hK K;have dX:=And.intro dX (And.intro @coQuotientSt12.eq_def (And.intro @hkc (And.intro @hcv (And.intro @hIl @Int.toNat_natCast))));refine cm coQuotientSt12 (fun j r=>match j with | _=>True) fun K hK=>?_;(repeat refine dV ?_);have dK:=And.intro @hkc (And.intro @hcv (And.intro @lv @hnI));refine ak (hK _ (au [1,3,6,7,8] ?_));clear hK K;have hkd:(v:Int) - 1 = (v:Int) - 1:=rfl;have dX:=And.intro dX (@hkc);refine dR fun K hK=>?_;(repeat refine eV ?_);have dK:=And.intro @bj @hkc;refine aa (hK _ ?_);clear hK K;show ∃ x,_ ∧ _ ∧ Weak _ _;refine ⟨v,?_,?_,ay [1,3,6,7,8]⟩
   ·omega
   ·omega
 ·have hv0:v1 = 0:=by
   have h:¬ (0:Int) ≤ (v1:Int) - 1:=by simpa using hb
   omega
  obtain ⟨hz1,hz2⟩:=hz hv0;rw [hz1,hz2];refine an ?_;refine bd [6,7] (by simp only [ae,pZ,simprocAttr]; exact rfl) ?_;refine ab (dR fun K hK=>?_);(repeat refine eV ?_);refine aa (hK _ (wK [6] ?_));clear hK K;exact ai (am Tryz.results83 (.one (.cell 6 _ _ _ _ rfl rfl aq rfl rfl (ao (cqN N cls m N.ends.length)))) (by decide) rfl)
end
section
open Go Go.RowKit
def qgSt10:Nat → Stat
 | 0=>⟨[6],[(6,1)],[],[46],[],[]⟩
 | 1=>⟨[46],[(6,1)],[],[47],[],[]⟩
 | 2=>⟨[2],[(2,1)],[],[48],[],[]⟩
 | 3=>⟨[48],[(2,1)],[],[49],[],[]⟩
 | 4=>⟨[8],[],[],[50],[],[]⟩
 | 5=>⟨[50],[],[],[51],[],[]⟩
 | 6=>⟨[51],[],[],[52],[],[]⟩
 | 7=>⟨[49,52],[],[],[53],[],[]⟩
 | 8=>⟨[53],[],[],[54],[],[]⟩
 | 9=>⟨[54],[],[],[55],[],[]⟩
 | 10=>⟨[47,55],[(6,1),(55,1)],[6,55],[56],[(6,1)],[]⟩
 | 11=>⟨[6],[(6,1)],[],[57],[],[]⟩
 | 12=>⟨[57,56],[(6,1)],[56],[],[(6,1),(56,1)],[]⟩
 | _=>⟨[],[],[],[],[],[]⟩
def qgSt11:Nat → Stat
 | 0=>⟨[2],[(2,1)],[],[58],[],[]⟩
 | 1=>⟨[58],[(2,1)],[],[59],[],[]⟩
 | 2=>⟨[8],[],[],[60],[],[]⟩
 | 3=>⟨[60],[],[],[61],[],[]⟩
 | 4=>⟨[61],[],[],[62],[],[]⟩
 | 5=>⟨[59,62],[],[],[63],[],[]⟩
 | 6=>⟨[63],[],[],[64],[],[]⟩
 | 7=>⟨[64],[],[],[65],[],[]⟩
 | 8=>⟨[],[],[],[66],[],[]⟩
 | _=>⟨[],[],[],[],[],[]⟩
def qgSt14:Nat → Stat
 | 0=>⟨[6],[(6,1)],[],[70],[],[]⟩
 | 1=>⟨[70],[(6,1)],[],[71],[],[]⟩
 | 2=>⟨[7],[],[],[72],[],[]⟩
 | 3=>⟨[6],[(6,1)],[],[73],[],[]⟩
 | 4=>⟨[73],[(6,1)],[],[74],[],[]⟩
 | 5=>⟨[7],[],[],[75],[],[]⟩
 | 6=>⟨[74,75],[(6,1)],[],[76],[],[]⟩
 | 7=>⟨[76],[(6,2)],[],[77],[],[]⟩
 | 8=>⟨[1],[],[],[78],[],[]⟩
 | 9=>⟨[10],[(10,1)],[],[79],[],[]⟩
 | 10=>⟨[79],[(10,1)],[],[80],[],[]⟩
 | 11=>⟨[78,80],[],[],[81],[],[]⟩
 | 12=>⟨[81],[],[],[82],[],[]⟩
 | 13=>⟨[10],[(10,1)],[],[83],[],[]⟩
 | 14=>⟨[83],[(10,1)],[],[84],[],[]⟩
 | 15=>⟨[82,84],[],[],[85],[],[]⟩
 | 16=>⟨[85],[],[],[86],[],[]⟩
 | 17=>⟨[77,86],[(6,2),(86,1)],[6,86],[87],[(6,2)],[]⟩
 | 18=>⟨[71,72],[(6,1)],[],[88],[],[]⟩
 | 19=>⟨[88,87],[(6,2)],[87],[],[(6,2),(87,1)],[]⟩
 | _=>⟨[],[],[],[],[],[]⟩
noncomputable def wm (N:Net) (cls:List Int):Res:=[.own true (netO (if j7 N cls = true then quN N cls (du cls).toNat else ku)),.c (.p (.bool (j7 N cls)))]
theorem gu {N:Net} {cls:List Int} (h:j7 N cls = false):wm N cls = [.own true (netO ku),.c (.p (.bool false))]:=by unfold wm; rw [h]; rfl
theorem qy {N:Net} {cls:List Int} (h:j7 N cls = true):wm N cls = [.own true (netO (quN N cls (du cls).toNat)),.c (.p (.bool true))]:=by unfold wm; rw [h]; rfl
def zBQgn1:=PLift.up (And.intro aq (And.intro @cf (And.intro bn (And.intro b7 (And.intro cd (And.intro ch (And.intro bb (And.intro ee (And.intro @if_pos.{1} (And.intro @cx (And.intro @cw (And.intro @bo (And.intro @a7 (And.intro @ba (And.intro @df (And.intro @ek @trivial))))))))))))))))
theorem jaf:type_of% zBQgn1.down:=zBQgn1.down
set_option maxRecDepth 8000 in
set_option maxHeartbeats 0 in
theorem K3 (f:NF) (N:Net) (o:Bool) (t:TypeId) (cls:List Int) (hg:bg N = true) (hcl0:cls.length ≤ 1000000):DCalls Tryz.prog 72 [.agg (be f N),.c (.sl o t 1 (cls.map iC))] (fun r=>r = wm N cls):=by
 obtain ⟨hs,hn,hids,hdg⟩:=ep hg;have hin:=gd hg;refine aw Tryz.func72 rfl (by rw [Tryz.ntmps72]; simp) fun w0=>?_;rw [Tryz.ntmps72];have dX:=jaf;simp only [bw,bf,Arg.av,be,b9,ints,ends];refine ab (dR fun K hK=>?_);(repeat refine eV ?_);refine aa (hK _ (wK [1,2,4] ?_));clear hK K
 by_cases hcl:cls.length = N.ends.length
 ·refine ab ?_;have dX:=And.intro dX (And.intro @hcl @bne_self_eq_false.{0});refine ab (dR fun K hK=>?_);(repeat refine eV ?_);have dX:=And.intro dX (And.intro @hcl @bne_self_eq_false.{0});refine cgF rfl rfl ⟨rfl,_,rfl⟩ (by omega) (by first | exact Nz) (my o t cls 0 ((N.ends.length:Int) - 1) (by omega)) ?_;rintro _ rfl;(repeat refine eV ?_);obtain hcw | hcw:=Bool.eq_false_or_eq_true (cls.all fun n=>inB n 0 ((N.ends.length:Int) - 1))
  ·have hcx:∀ x ∈ cls,0 ≤ x ∧ x < (N.ends.length:Int):=fun x hx=>by
    have:=db.1 (List.all_eq_true.1 hcw x hx);omega
   obtain ⟨m1,hmany,hm0,hmn,hc⟩:=Oc (show 0 < cls.length by omega) hcx
   have hqd:j7 N cls = (rc cls N.ends.length m1 && bg (quN N cls m1) && pmB N (quN N cls m1) cls):=by
    unfold j7;rw [hg,hcw,hmany,Int.toNat_natCast,decide_eq_true hcl];simp only [Bool.true_and]
   have hqi:(quN N cls m1).inputs.length = (quN N cls m1).ends.length:=by simp [quN]
   have hqn:DCalls Tryz.prog 40 [.agg (netO (quN N cls m1))] (fun r=>r = [.c (.p (.bool (bg (quN N cls m1))))]):=em NFo (quN N cls m1) (Nat.zero_le _)
   have hqm:DCalls Tryz.prog 74 [.agg (be ⟨false,f.t1,f.o2,f.t2,false,f.t3,false,f.t4⟩ N),.agg (netO (quN N cls m1)),.c (.sl o t 1 (cls.map iC))] (fun r=>r = [.c (.p (.bool (pmB N (quN N cls m1) cls)))]) :=
    mr ⟨false,f.t1,f.o2,f.t2,false,f.t3,false,f.t4⟩ NFo N (quN N cls m1) o t cls hg hqi (by rw [gv]; omega) hcl0
   have dX:=And.intro dX (And.intro @hcl (And.intro @bne_self_eq_false.{0} @hcw));(repeat refine eV ?_);have dK:=And.intro @hcl (And.intro @bne_self_eq_false.{0} @hcw);refine aa (hK _ (au [1,2,4,25] ?_));clear hK K;refine dI ?_ ?_<;>intro hb
   ·cases hb
   ·refine af ?_;show DW _ _ _ _ _;refine ab (dR fun K hK=>?_);(repeat refine eV ?_);refine aa (hK _ (wK [1,2,4,6] ?_));clear hK K;refine az 6 0 95 1 (by decide) rfl rfl [1,2,4,6] (by simp only [ae,pZ,simprocAttr,List.modify_zero_cons,List.modify_succ_cons]; exact rfl) ?_;refine az 6 1 3 1 (by decide) rfl rfl [1,2,4,6] (by simp only [ae,pZ,simprocAttr,List.modify_zero_cons,List.modify_succ_cons]; exact rfl) ?_;refine az 6 2 3 1 (by decide) rfl rfl [1,2,4,6] (by simp only [ae,pZ,simprocAttr,List.modify_zero_cons,List.modify_succ_cons]; exact rfl) ?_;refine ab ?_;refine ab (dR fun K hK=>?_);(repeat refine eV ?_);refine cL rfl ⟨rfl,_,rfl⟩ (by omega) (by first | exact yp | exact l0) (lc o t cls (by omega) (fun x hx=>by have:=hcx x hx; omega)) ?_;rintro _ rfl;(repeat refine eV ?_);have dX:=And.intro dX (@hmany);refine cL rfl ⟨rfl,_,rfl⟩ (by omega) (by first | exact yp | exact l0) (Cy o t cls m1 (by omega) (by omega) hc) ?_;rintro _ rfl;(repeat refine eV ?_);have dK:=@mt;refine aa (hK _ (au [1,2,4,6,30,31,32] ?_));clear hK K;refine C4 30 [1,2,4,6,30,31,32] rfl rfl (by simp only [ae,pZ,simprocAttr,Ii,En,wj,wh,ny]; exact rfl) ?_;have hTl:=mt cls m1 cls.length;have hTl2:=mt cls m1 N.ends.length;refine ac ?_;refine ax (X:=Nat) (fun c=>c ≤ m1 ∧ ∀ x:Nat,x < c → ∃ u,u < N.ends.length ∧ gi cls u = (x:Int)) (fun c=>[(32,.c (.p (.int .i64 c)))]) (fun c=>[((6,0),⟨some 31,[.sl true 95 1 ((quE N cls c).map (esC 97)),.sl true 3 1 (([]:List Int).map iC),.sl true 3 1 ((quI N cls c).map iC)]⟩)]) (fun c=>m1 - c) 0 ⟨Nat.zero_le _,fun x hx=>absurd hx (Nat.not_lt_zero x)⟩ (by first | rfl | (simp only [ae,pZ,simprocAttr,Int.natCast_zero] <;> rfl)) ?_;rintro c ⟨hc1,hex⟩;intro E hE;simp only [ae,pZ,simprocAttr] at hE;subst hE;have hEl:=Nl N cls c;have hIl:=Ar N cls c;have hEs:=Im N cls c;have hIs:=Il N cls c;obtain ⟨E,hE⟩:∃ E,E = quE N cls c:=⟨_,rfl⟩;obtain ⟨I,hI⟩:∃ I,I = quI N cls c:=⟨_,rfl⟩;rw [← hE] at hEl hEs ⊢;rw [← hI] at hIl hIs ⊢;refine ab (dR fun K hK=>?_);(repeat refine eV ?_);refine aa (hK _ (wK [1,2,4,6,30,31,32,33] ?_));clear hK K;refine ab (dI (fun hb=>?_) (fun hb=>?_))
    ·have hcK:c < m1:=by simpa using hb
     have hlg:lg (fbT cls m1 cls.length) c = fbL cls cls.length c:=Gp hcK;rw [hcl] at hlg;have hFl:=Gx cls N.ends.length c
     by_cases hne:(fbL cls N.ends.length c).length = 0
     ·have hno:wm N cls = [.own true (netO ku),.c (.p (.bool false))]:=gu (by
       rw [hqd]
       have:rc cls N.ends.length m1 = false:=Bool.eq_false_iff.2 fun h=>by
        obtain ⟨r0,-⟩:=ii (lh.1 h c hcK);omega
       rw [this]; rfl)
      obtain ⟨F,hF⟩:∃ F,F = fbL cls N.ends.length c:=⟨_,rfl⟩;rw [← hF] at hlg hne hFl;have hF0:((F.length:Int) == 0) = true:=by rw [beq_iff_eq]; omega
      refine af ?_;show DW _ _ _ _ _;refine ab (ac ?_);have dX:=And.intro dX (And.intro @Int.toNat_natCast (And.intro @hcl @hlg));refine ab (dR fun K hK=>?_);(repeat refine eV ?_);have dK:=And.intro @hcl @hlg;refine aa (hK _ (au [1,2,4,6,7,8,30,31,32] ?_));clear hK K;refine ab ?_;have dX:=And.intro dX (@hF0);refine ab (dR fun K hK=>?_);(repeat refine eV ?_);have dK:=@hF0;refine aa (hK _ (au [1,2,4,6,7,8,30,31,32,39] ?_));clear hK K;refine dI ?_ ?_<;>intro hb
      ·refine ab (dR fun K hK=>?_);(repeat refine eV ?_);refine aa (hK _ (wK [4,5] ?_));clear hK K;refine az 4 0 95 1 (by decide) rfl rfl [4,5] (by simp only [ae,pZ,simprocAttr,List.modify_zero_cons,List.modify_succ_cons]; exact rfl) ?_;refine az 4 1 3 1 (by decide) rfl rfl [4,5] (by simp only [ae,pZ,simprocAttr,List.modify_zero_cons,List.modify_succ_cons]; exact rfl) ?_;refine az 4 2 3 1 (by decide) rfl rfl [4,5] (by simp only [ae,pZ,simprocAttr,List.modify_zero_cons,List.modify_succ_cons]; exact rfl) ?_;exact ai (am Tryz.results72 (.two (.cell 4 _ _ _ _ rfl rfl aq rfl rfl (ao ku)) (.plain _ _ rfl)) (by decide) (by rw [hno]; rfl))
      ·cases hb
     ·have hexc:∃ u,u < N.ends.length ∧ gi cls u = (c:Int):=by
       have h3:gi (fbL cls N.ends.length c) 0 ∈ fbL cls N.ends.length c:=by rw [bt (by omega)]; exact List.getElem_mem (by omega)
       obtain ⟨h4,h5,h6⟩:=Az.1 h3;exact ⟨(gi (fbL cls N.ends.length c) 0).toNat,by omega,h6⟩
      obtain ⟨r0,r1,r2,r3⟩:=ii hexc;obtain ⟨u,hu⟩:∃ u,u = rpF cls N.ends.length c:=⟨_,rfl⟩;have hqs:qsE N cls c = (gl N.ends u).map fun e=>(gi cls e.1.toNat,e.2):=by rw [hu]; rfl
      rw [← hu] at r1 r2 r3 hIs;obtain ⟨F,hF⟩:∃ F,F = fbL cls N.ends.length c:=⟨_,rfl⟩;rw [← hF] at hlg r0 r3 hFl;have hF0:((F.length:Int) == 0) = false:=by rw [beq_eq_false_iff_ne]; omega
      have hui:u < N.inputs.length:=by omega
      have hdu:=hdg u;refine af ?_;show DW _ _ _ _ _;refine ab (ac ?_);have dX:=And.intro dX (And.intro @Int.toNat_natCast (And.intro @hcl @hlg));refine ab (dR fun K hK=>?_);(repeat refine eV ?_);have dK:=And.intro @hcl @hlg;refine aa (hK _ (au [1,2,4,6,7,8,30,31,32] ?_));clear hK K;refine ab ?_;have dX:=And.intro dX (@hF0);refine ab (dR fun K hK=>?_);(repeat refine eV ?_);have dK:=@hF0;refine aa (hK _ (au [1,2,4,6,7,8,30,31,32,39] ?_));clear hK K;refine dI ?_ ?_<;>intro hb
      ·cases hb
      ·refine af ?_;show DW _ _ _ _ _;refine ab (dR fun K hK=>?_);(repeat refine eV ?_);refine aa (hK _ (wK [1,2,4,6,7,8,30,31,32] ?_));clear hK K;refine su 6 [(0,0),(E.length,0)] 97 2 (by decide) (by simp only [ae,pZ,simprocAttr]; exact rfl) yr [1,2,4,6,7,8,30,31,32] (by simp only [ae,pZ,simprocAttr,je,List.modify_cons,List.modifyHead,sf]; exact rfl) ?_;have dX:=And.intro dX (And.intro @qgSt10.eq_def (And.intro @r3 (And.intro @Int.toNat_natCast @a7)));refine ab (cm qgSt10 (fun j r=>match j with | _=>True) fun K hK=>?_);(repeat refine dV ?_);have dK:=And.intro @r3 (And.intro @il (Eq.symm hIs));refine ak (hK _ (au [1,2,4,6,7,8,30,31,32] ?_));clear hK K;have dX:=And.intro dX (And.intro @qgSt11.eq_def (And.intro @r3 (And.intro @Int.toNat_natCast @a7)));refine ab (cm qgSt11 (fun j r=>match j with | _=>True) fun K hK=>?_);(repeat refine dV ?_);have dK:=@r3;refine ak (hK _ (au [1,2,4,6,7,30,31,32,64,65,66] ?_));clear hK K;have hI1:(quI N cls (c + 1)).length = c + 1:=Ar _ _ _;have h0:E ++ [[]] = E ++ [(qsE N cls c).take 0]:=by rw [List.take_zero]
       rw [h0];refine ac ?_;refine ax (X:=Nat) (fun i=>i ≤ (gl N.ends u).length) (fun i=>[(66,.c (.p (.int .i64 i)))]) (fun i=>[((6,0),⟨some 31,[.sl true 95 1 ((E ++ [(qsE N cls c).take i]).map (esC 97)),.sl true 3 1 (([]:List Int).map iC),.sl true 3 1 ((quI N cls (c + 1)).map iC)]⟩)]) (fun i=>(gl N.ends u).length - i) 0 (Nat.zero_le _) (by first | rfl | (simp only [ae,pZ,simprocAttr,Int.natCast_zero] <;> rfl)) ?_;rintro i hi;intro E hE;simp only [ae,pZ,simprocAttr] at hE;subst hE;have hgl2:gl (E ++ [(qsE N cls c).take i]) c = (qsE N cls c).take i:=by rw [← hEl]; exact On _ _
       have hset2:∀ X,(E ++ [(qsE N cls c).take i]).set c X = E ++ [X]:=fun X=>by rw [← hEl]; exact Id _ _ _
       have hl2:(E ++ [(qsE N cls c).take i]).length = c + 1:=by rw [List.length_append,hEl]; rfl
       have htl:((qsE N cls c).take i).length = i:=by rw [List.length_take,hqs,List.length_map]; omega
       obtain ⟨E2,hE2⟩:∃ E2,E2 = E ++ [(qsE N cls c).take i]:=⟨_,rfl⟩;rw [← hE2] at hgl2 hset2 hl2 ⊢;refine ab (dR fun K hK=>?_);(repeat refine eV ?_);refine aa (hK _ (wK [1,2,4,6,7,30,31,32,64,65,66,67] ?_));clear hK K;refine ab (dI (fun hb=>?_) (fun hb=>?_))
       ·have hi1:i < (gl N.ends u).length:=by simpa using hb
        obtain ⟨q1,q2,q3,q4,q5⟩:=d9 hs r1 hi1
        have htk:(qsE N cls c).take i ++ [(gi cls (nd N u i),(bk N u i:Int))] = (qsE N cls c).take (i + 1):=by
         rw [List.take_add_one,hqs];simp only [List.getElem?_map,List.getElem?_eq_getElem hi1,Option.map_some,Option.toList];rw [← gb hi1,q5];simp
        refine af ?_;show DW _ _ _ _ _;refine ab (ac ?_);have dX:=And.intro dX (And.intro @Int.toNat_natCast @q5);refine ab (dR fun K hK=>?_);(repeat refine eV ?_);have dK:=@q5;refine aa (hK _ (au [1,2,4,6,7,10,30,31,32,64,65,66] ?_));clear hK K;have dX:=And.intro dX (And.intro @qgSt14.eq_def (And.intro @q5 (And.intro @hcl (And.intro @ef (And.intro @jr (And.intro @hl2 (And.intro @hgl2 (And.intro @htl (And.intro @Int.toNat_natCast (And.intro @List.length_append.{0} @List.length_modify.{0}))))))))));refine cm qgSt14 (fun j r=>match j with | _=>True) fun K hK=>?_;(repeat refine dV ?_);have dK:=And.intro @q5 (And.intro @jb (And.intro @mu (And.intro @htk @hset2)));refine ak (hK _ (au [1,2,4,6,7,30,31,32,64,65,66] ?_));clear hK K;refine dR fun K hK=>?_;(repeat refine eV ?_);have dK:=@bj;refine aa (hK _ ?_);clear hK K;show ∃ x,_ ∧ _ ∧ Weak _ _;refine ⟨i + 1,?_,?_,ay [1,2,4,6,7,30,31,32,64,65,66]⟩
        ·omega
        ·omega
       ·have hi2:i = (qsE N cls c).length:=by
         have:¬ i < (gl N.ends u).length:=by simpa using hb
         rw [hqs,List.length_map];omega
        have hEf:E2 = quE N cls (c + 1):=by rw [hE2,hEs,hi2,List.take_length]
        rw [hEf];refine an ?_;refine bd [1,2,4,6,30,31,32] (by simp only [ae,pZ,simprocAttr]; exact rfl) ?_;refine dR fun K hK=>?_;(repeat refine eV ?_);have dK:=@bj;refine aa (hK _ ?_);clear hK K;show ∃ x,_ ∧ _ ∧ Weak _ _;refine ⟨c + 1,?_,?_,ay [1,2,4,6,30,31,32]⟩
        ·refine ⟨hcK,fun x hx=>?_⟩
         by_cases h:x = c
         ·rw [h]; exact hexc
         ·exact hex x (by omega)
        ·omega
    ·have hc2:c = m1:=by
      have:¬ c < m1:=by simpa using hb
      omega
     have hon:rc cls N.ends.length m1 = true:=lh.2 fun x hx=>hex x (by omega);have hEq:E = (quN N cls m1).ends:=by rw [hE,hc2]; rfl
     have hIq:I = (quN N cls m1).inputs:=by rw [hI,hc2]; rfl
     have hi0:([]:List Int) = (quN N cls m1).ids:=rfl;simp only [be,b9,ints,ends] at hqm;rw [hEq,hIq,hi0];rw [hon,Bool.true_and] at hqd;refine an ?_;refine bd [1,2,4,6] (by simp only [ae,pZ,simprocAttr]; exact rfl) ?_;refine ab ?_;refine ab (dR fun K hK=>?_);(repeat refine eV ?_);refine cL rfl ⟨rfl,_,rfl⟩ (by omega) (by first | exact n9 | exact zo) (hqn) ?_;rintro _ rfl;(repeat refine eV ?_);obtain hq1 | hq1:=Bool.eq_false_or_eq_true (bg (quN N cls m1))
     ·have dX:=And.intro dX (@hq1);(repeat refine eV ?_);have dX:=And.intro dX (@hq1);refine cgF rfl rfl ⟨rfl,_,rfl⟩ (by omega) (by first | exact n9 | exact zo) (hqm) ?_;rintro _ rfl;(repeat refine eV ?_);obtain hq2 | hq2:=Bool.eq_false_or_eq_true (pmB N (quN N cls m1) cls)
      ·have hyes:wm N cls = [.own true (netO (quN N cls m1)),.c (.p (.bool true))]:=by
        rw [qy (by rw [hqd,hq1,hq2]; rfl),hmany,Int.toNat_natCast]
       have dX:=And.intro dX (And.intro @hq1 @hq2);(repeat refine eV ?_);have dK:=And.intro @hq1 @hq2;refine aa (hK _ (au [4,6,100] ?_));clear hK K;refine dI ?_ ?_<;>intro hb
       ·cases hb
       ·refine af ?_;show DW _ _ _ _ _;refine ab (dR fun K hK=>?_);(repeat refine eV ?_);have dK:=@netO.eq_1;refine aa (hK _ (au [4,5] ?_));clear hK K;exact ai (am Tryz.results72 (.two (.cell 4 _ _ _ _ rfl rfl aq rfl rfl (ao _)) (.plain _ _ rfl)) (by decide) (by rw [hyes]; rfl))
      ·have hno:wm N cls = [.own true (netO ku),.c (.p (.bool false))]:=gu (by rw [hqd,hq1,hq2]; rfl);have dX:=And.intro dX (And.intro @hq1 @hq2);(repeat refine eV ?_);have dK:=And.intro @hq1 @hq2;refine aa (hK _ (au [4,6,100] ?_));clear hK K;refine dI ?_ ?_<;>intro hb
       ·refine ab (dR fun K hK=>?_);(repeat refine eV ?_);refine aa (hK _ (wK [4,5] ?_));clear hK K;refine az 4 0 95 1 (by decide) rfl rfl [4,5] (by simp only [ae,pZ,simprocAttr,List.modify_zero_cons,List.modify_succ_cons]; exact rfl) ?_;refine az 4 1 3 1 (by decide) rfl rfl [4,5] (by simp only [ae,pZ,simprocAttr,List.modify_zero_cons,List.modify_succ_cons]; exact rfl) ?_;refine az 4 2 3 1 (by decide) rfl rfl [4,5] (by simp only [ae,pZ,simprocAttr,List.modify_zero_cons,List.modify_succ_cons]; exact rfl) ?_;exact ai (am Tryz.results72 (.two (.cell 4 _ _ _ _ rfl rfl aq rfl rfl (ao ku)) (.plain _ _ rfl)) (by decide) (by rw [hno]; rfl))
       ·cases hb
     ·have hno:wm N cls = [.own true (netO ku),.c (.p (.bool false))]:=gu (by rw [hqd,hq1]; rfl);have dX:=And.intro dX (@hq1);(repeat refine eV ?_);have dX:=And.intro dX (@hq1);refine csF ?_;(repeat refine eV ?_);have dX:=And.intro dX (@hq1);(repeat refine eV ?_);have dK:=@hq1;refine aa (hK _ (au [4,6,100] ?_));clear hK K;refine dI ?_ ?_<;>intro hb
      ·refine ab (dR fun K hK=>?_);(repeat refine eV ?_);refine aa (hK _ (wK [4,5] ?_));clear hK K;refine az 4 0 95 1 (by decide) rfl rfl [4,5] (by simp only [ae,pZ,simprocAttr,List.modify_zero_cons,List.modify_succ_cons]; exact rfl) ?_;refine az 4 1 3 1 (by decide) rfl rfl [4,5] (by simp only [ae,pZ,simprocAttr,List.modify_zero_cons,List.modify_succ_cons]; exact rfl) ?_;refine az 4 2 3 1 (by decide) rfl rfl [4,5] (by simp only [ae,pZ,simprocAttr,List.modify_zero_cons,List.modify_succ_cons]; exact rfl) ?_;exact ai (am Tryz.results72 (.two (.cell 4 _ _ _ _ rfl rfl aq rfl rfl (ao ku)) (.plain _ _ rfl)) (by decide) (by rw [hno]; rfl))
      ·cases hb
  ·have hno:wm N cls = [.own true (netO ku),.c (.p (.bool false))]:=gu (by unfold j7; rw [hcw]; simp);have dX:=And.intro dX (And.intro @hcl (And.intro @bne_self_eq_false.{0} @hcw));(repeat refine eV ?_);have dK:=And.intro @hcl (And.intro @bne_self_eq_false.{0} @hcw);refine aa (hK _ (au [1,2,4,25] ?_));clear hK K;refine dI ?_ ?_<;>intro hb
   ·refine ab (dR fun K hK=>?_);(repeat refine eV ?_);refine aa (hK _ (wK [4,5] ?_));clear hK K;refine az 4 0 95 1 (by decide) rfl rfl [4,5] (by simp only [ae,pZ,simprocAttr,List.modify_zero_cons,List.modify_succ_cons]; exact rfl) ?_;refine az 4 1 3 1 (by decide) rfl rfl [4,5] (by simp only [ae,pZ,simprocAttr,List.modify_zero_cons,List.modify_succ_cons]; exact rfl) ?_;refine az 4 2 3 1 (by decide) rfl rfl [4,5] (by simp only [ae,pZ,simprocAttr,List.modify_zero_cons,List.modify_succ_cons]; exact rfl) ?_;exact ai (am Tryz.results72 (.two (.cell 4 _ _ _ _ rfl rfl aq rfl rfl (ao ku)) (.plain _ _ rfl)) (by decide) (by rw [hno]; rfl))
   ·cases hb
 ·have hno:wm N cls = [.own true (netO ku),.c (.p (.bool false))]:=gu (by unfold j7; rw [decide_eq_false hcl]; simp);have hne:((cls.length:Int) != (N.ends.length:Int)) = true:=by rw [bne_iff_ne]; omega
  refine ab ?_;have dX:=And.intro dX (@hne);refine ab (dR fun K hK=>?_);(repeat refine eV ?_);have dX:=And.intro dX (@hne);refine csF ?_;(repeat refine eV ?_);have dX:=And.intro dX (@hne);(repeat refine eV ?_);have dK:=@hne;refine aa (hK _ (au [1,2,4,25] ?_));clear hK K;refine dI ?_ ?_<;>intro hb
  ·refine ab (dR fun K hK=>?_);(repeat refine eV ?_);refine aa (hK _ (wK [4,5] ?_));clear hK K;refine az 4 0 95 1 (by decide) rfl rfl [4,5] (by simp only [ae,pZ,simprocAttr,List.modify_zero_cons,List.modify_succ_cons]; exact rfl) ?_;refine az 4 1 3 1 (by decide) rfl rfl [4,5] (by simp only [ae,pZ,simprocAttr,List.modify_zero_cons,List.modify_succ_cons]; exact rfl) ?_;refine az 4 2 3 1 (by decide) rfl rfl [4,5] (by simp only [ae,pZ,simprocAttr,List.modify_zero_cons,List.modify_succ_cons]; exact rfl) ?_;exact ai (am Tryz.results72 (.two (.cell 4 _ _ _ _ rfl rfl aq rfl rfl (ao ku)) (.plain _ _ rfl)) (by decide) (by rw [hno]; rfl))
  ·cases hb
end
section
set_option maxHeartbeats 0
set_option maxRecDepth 8000
open Go Go.RowKit
theorem Mp {n:Nat} {b c:Nat → Bool} (h:∀ j,j < n → b j = c j):qp n b = qp n c:=by
 unfold qp;rw [Bool.eq_iff_iff,List.any_eq_true,List.any_eq_true];constructor
 ·rintro ⟨j,h1,h2⟩;exact ⟨j,h1,by rw [← h j (List.mem_range.1 h1)]; exact h2⟩
 ·rintro ⟨j,h1,h2⟩;exact ⟨j,h1,by rw [h j (List.mem_range.1 h1)]; exact h2⟩
def zBBs41:=PLift.up (And.intro aq (And.intro @netO.eq_1 (And.intro @cf (And.intro bn (And.intro b7 (And.intro cd (And.intro ch (And.intro bb (And.intro ee (And.intro @if_pos.{1} (And.intro @cx (And.intro @cw (And.intro @bo (And.intro @a7 (And.intro @ba (And.intro @df (And.intro @ek @trivial)))))))))))))))))
theorem G7:type_of% zBBs41.down:=zBBs41.down
theorem tx (f:NF) (N:Net) (o:Bool) (t:TypeId) (cls:List Int) (hi:N.ids.length ≤ 2097152) (hcl0:cls.length ≤ 1000000):DCalls Tryz.prog 34 [.agg (be f N),.c (.sl o t 1 (cls.map iC))] (fun r=>r = wm N cls):=by
 refine aw Tryz.func34 rfl (by rw [Tryz.ntmps34]; simp) fun w0=>?_;rw [Tryz.ntmps34];have dX:=G7;simp only [bw,bf,Arg.av,be,b9,ints,ends];refine ab (dR fun K hK=>?_);(repeat refine eV ?_);refine aa (hK _ (wK [1,2,4] ?_));clear hK K;refine ab ?_;refine ab (dR fun K hK=>?_);(repeat refine eV ?_);refine cL rfl ⟨rfl,_,rfl⟩ (by omega) (by first | exact n9) (em ⟨false,f.t1,f.o2,f.t2,false,f.t3,false,f.t4⟩ N hi) ?_;rintro _ rfl;(repeat refine eV ?_);obtain hg | hg:=Bool.eq_false_or_eq_true (bg N)
 ·have dK:=@hg;refine aa (hK _ (au [1,2,4,8] ?_));clear hK K;refine dI ?_ ?_<;>intro hb
  ·cases hb
  ·refine af ?_;show DW _ _ _ _ _;have hq:=K3 ⟨false,f.t1,f.o2,f.t2,false,f.t3,false,f.t4⟩ N o t cls hg hcl0;obtain hb2 | hb2:=Bool.eq_false_or_eq_true (j7 N cls)
   ·rw [qy hb2] at hq ⊢;refine ab (dR fun K hK=>?_);(repeat refine eV ?_);refine cL rfl ⟨rfl,_,rfl⟩ (by omega) (by first | exact Tn) (hq) ?_;rintro _ rfl;(repeat refine eV ?_);have dK:=@netO.eq_1;refine aa (hK _ (au [4,5] ?_));clear hK K;exact ai (am Tryz.results34 (.two (.cell 4 _ _ _ _ rfl rfl aq rfl rfl (ao _)) (.plain _ _ rfl)) (by decide) rfl)
   ·rw [gu hb2] at hq ⊢;refine ab (dR fun K hK=>?_);(repeat refine eV ?_);refine cL rfl ⟨rfl,_,rfl⟩ (by omega) (by first | exact Tn) (hq) ?_;rintro _ rfl;(repeat refine eV ?_);have dK:=@netO.eq_1;refine aa (hK _ (au [4,5] ?_));clear hK K;exact ai (am Tryz.results34 (.two (.cell 4 _ _ _ _ rfl rfl aq rfl rfl (ao _)) (.plain _ _ rfl)) (by decide) rfl)
 ·have hno:j7 N cls = false:=by unfold j7; rw [hg]; simp only [Bool.false_and]
  have dK:=@hg;refine aa (hK _ (au [1,2,4,8] ?_));clear hK K;refine dI ?_ ?_<;>intro hb
  ·refine ab (dR fun K hK=>?_);(repeat refine eV ?_);refine aa (hK _ (wK [4,5] ?_));clear hK K;refine az 4 0 95 1 (by decide) rfl rfl [4,5] (by simp only [ae,pZ,simprocAttr,List.modify_zero_cons,List.modify_succ_cons]; exact rfl) ?_;refine az 4 1 3 1 (by decide) rfl rfl [4,5] (by simp only [ae,pZ,simprocAttr,List.modify_zero_cons,List.modify_succ_cons]; exact rfl) ?_;refine az 4 2 3 1 (by decide) rfl rfl [4,5] (by simp only [ae,pZ,simprocAttr,List.modify_zero_cons,List.modify_succ_cons]; exact rfl) ?_;exact ai (am Tryz.results34 (.two (.cell 4 _ _ _ _ rfl rfl aq rfl rfl (ao ku)) (.plain _ _ rfl)) (by decide) (by rw [gu hno]; rfl))
  ·cases hb
theorem Q3 (l:List Int):DCalls Tryz.prog 122 ([.c (.sl true 3 1 (l.map iC))] ++ ([]:List (List C)).map .rp) (fun r=>r = [.c (.p (.bool (decide (l.length = 0))))]):=by
 have hd:((l.length:Int) == 0) = decide (l.length = 0):=by
  by_cases h:l.length = 0
  ·rw [h]; rfl
  ·rw [decide_eq_false h,beq_eq_false_iff_ne]; omega
 refine aw Tryz.func122 rfl (by rw [Tryz.ntmps122]; simp) fun w0=>?_;rw [Tryz.ntmps122];have dX:=G7;simp only [bw,bf,Arg.av,be,b9,ints,ends,List.map_nil,List.append_nil];refine ab (dR fun K hK=>?_);(repeat refine eV ?_);refine aa (hK _ (wK [0] ?_));clear hK K;have dX:=And.intro dX (@hd);refine ab (dR fun K hK=>?_);(repeat refine eV ?_);have dK:=@hd;refine aa (hK _ (au [2] ?_));clear hK K;exact ai (am Tryz.results122 (.one (.plain _ _ rfl)) (by decide) rfl)
theorem U6 (f:NF) (B:Net) (o:Bool) (t:TypeId) (m:List Int) (hl:m.length ≤ 100000) (hKn:B.ends.length ≤ 100000) (hc:∀ v,v < m.length → 0 ≤ gi m v ∧ gi m v < B.ends.length):DCalls Tryz.prog 75 [.agg (be f B),.c (.sl o t 1 (m.map iC))] (fun r=>r = [.c (.p (.bool (rc m m.length B.ends.length)))]):=by
 have hcl:=mt m B.ends.length m.length
 have hany:(qp (fbT m B.ends.length m.length).length fun j=>decide ((lg (fbT m B.ends.length m.length) j).length = 0)) = qp B.ends.length fun c=>decide ((fbL m m.length c).length = 0):=by
  rw [hcl];refine Mp fun j hj=>?_;unfold fbT;rw [Gp hj]
 refine aw Tryz.func75 rfl (by rw [Tryz.ntmps75]; simp) fun w0=>?_;rw [Tryz.ntmps75];have dX:=G7;simp only [bw,bf,Arg.av,be,b9,ints,ends];refine ab (dR fun K hK=>?_);(repeat refine eV ?_);refine aa (hK _ (wK [1,2] ?_));clear hK K;refine ab (dR fun K hK=>?_)
 repeat (apply cr; (focus exact rfl); (focus (simp (disch:=first | omega | (intros; contradiction)) only [ae,bu,pZ,simprocAttr,aq,netO,cf,bn,b7,cd,ch,bb,ee,if_pos,cx,cw,bo,a7,ba,df,ek ,l0,ur]; exact rfl)))
 refine fb rfl ⟨rfl,_,rfl⟩ (by omega) (by first | exact l0 | exact ur) (by simp (disch:=first | omega | (intros; contradiction)) only [ae,bu,pZ,simprocAttr,aq,netO,cf,bn,b7,cd,ch,bb,ee,if_pos,cx,cw,bo,a7,ba,df,ek ,l0,ur] <;> exact rfl) (Cy o t m B.ends.length hl hKn hc) ?_;rintro _ rfl
 repeat (apply cr; (focus exact rfl); (focus (simp (disch:=first | omega | (intros; contradiction)) only [ae,bu,pZ,simprocAttr,aq,netO,cf,bn,b7,cd,ch,bb,ee,if_pos,cx,cw,bo,a7,ba,df,ek ,l0,ur]; exact rfl)))
 refine fb rfl ⟨rfl,_,rfl⟩ (by omega) (by first | exact l0 | exact ur) (by simp (disch:=first | omega | (intros; contradiction)) only [ae,bu,pZ,simprocAttr,aq,netO,cf,bn,b7,cd,ch,bb,ee,if_pos,cx,cw,bo,a7,ba,df,ek ,l0,ur] <;> exact rfl) ((Ak true 26 (fbT m B.ends.length m.length) 122 [] (fun j=>decide ((lg (fbT m B.ends.length m.length) j).length = 0)) (by rw [hcl]; omega) Zy (fun j _=>Q3 _)).fn0) ?_;rintro _ rfl
 repeat (apply cr; (focus exact rfl); (focus (simp (disch:=first | omega | (intros; contradiction)) only [ae,bu,pZ,simprocAttr,aq,netO,cf,bn,b7,cd,ch,bb,ee,if_pos,cx,cw,bo,a7,ba,df,ek ,l0,ur]; exact rfl)))
 refine aa (hK _ (wK [4] ?_));clear hK K;exact ai (am Tryz.results75 (.one (.plain _ _ rfl)) (by decide) (by rw [hany]; rfl))
noncomputable def Md (A B:Net) (m:List Int):Bool:=pmB A B m && rc m A.ends.length B.ends.length
noncomputable def Mc (A B:Net) (m:List Int):Res:=[.c (.p (.bool (bg A && bg B && Md A B m))),.c (.p (.bool (bg A && bg B)))]
theorem tz (f g:NF) (A B:Net) (o:Bool) (t:TypeId) (m:List Int) (hiA:A.ids.length ≤ 2097152) (hiB:B.ids.length ≤ 2097152) (hl:m.length ≤ 100000):DCalls Tryz.prog 33 [.agg (be f A),.agg (be g B),.c (.sl o t 1 (m.map iC))] (fun r=>r = Mc A B m):=by
 refine aw Tryz.func33 rfl (by rw [Tryz.ntmps33]; simp) fun w0=>?_;rw [Tryz.ntmps33];have dX:=G7;simp only [bw,bf,Arg.av,be,b9,ints,ends];refine ab (dR fun K hK=>?_);(repeat refine eV ?_);refine aa (hK _ (wK [2,3,4] ?_));clear hK K;refine ab ?_;refine ab (dR fun K hK=>?_);(repeat refine eV ?_);refine cL rfl ⟨rfl,_,rfl⟩ (by omega) (by first | exact n9) (em ⟨false,f.t1,f.o2,f.t2,false,f.t3,false,f.t4⟩ A hiA) ?_;rintro _ rfl;(repeat refine eV ?_);obtain hA | hA:=Bool.eq_false_or_eq_true (bg A)
 ·have dX:=And.intro dX (@hA);(repeat refine eV ?_);have dX:=And.intro dX (@hA);refine cgF rfl rfl ⟨rfl,_,rfl⟩ (by omega) (by first | exact n9) (em ⟨false,g.t1,g.o2,g.t2,false,g.t3,false,g.t4⟩ B hiB) ?_;rintro _ rfl;(repeat refine eV ?_);obtain hB | hB:=Bool.eq_false_or_eq_true (bg B)
  ·have hBn:=jf hB;have dX:=And.intro dX (And.intro @hA @hB);(repeat refine eV ?_);have dK:=And.intro @hA @hB;refine aa (hK _ (au [2,3,4,15] ?_));clear hK K;refine dI ?_ ?_<;>intro hb
   ·cases hb
   ·refine af ?_;show DW _ _ _ _ _;refine ab (dR fun K hK=>?_);(repeat refine eV ?_);refine cL rfl ⟨rfl,_,rfl⟩ (by omega) (by first | exact zo | exact Ym) (mr ⟨false,f.t1,f.o2,f.t2,false,f.t3,false,f.t4⟩ ⟨false,g.t1,g.o2,g.t2,false,g.t3,false,g.t4⟩ A B o t m hA (gd hB) (by omega) (by omega)) ?_;rintro _ rfl;(repeat refine eV ?_);obtain hm | hm:=Bool.eq_false_or_eq_true (pmB A B m)
    ·have hpm:=gw.1 hm;have dX:=And.intro dX (@hm);(repeat refine eV ?_);have dX:=And.intro dX (@hm);refine cgF rfl rfl ⟨rfl,_,rfl⟩ (by omega) (by first | exact zo | exact Ym) (U6 ⟨false,g.t1,g.o2,g.t2,false,g.t3,false,g.t4⟩ B o t m hl (by omega) (fun v hv=>hpm.2.1 v (by omega))) ?_;rintro _ rfl;(repeat refine eV ?_);have dX:=And.intro dX (@hm);(repeat refine eV ?_);have dK:=@hm;refine aa (hK _ (au [6,7] ?_));clear hK K;exact ai (am Tryz.results33 (.two (.plain _ _ rfl) (.plain _ _ rfl)) (by decide) (by unfold Mc Md; rw [hA,hB,hm,hpm.1]; rfl))
    ·have dX:=And.intro dX (@hm);(repeat refine eV ?_);have dX:=And.intro dX (@hm);refine csF ?_;(repeat refine eV ?_);have dX:=And.intro dX (@hm);(repeat refine eV ?_);have dK:=@hm;refine aa (hK _ (au [6,7] ?_));clear hK K;exact ai (am Tryz.results33 (.two (.plain _ _ rfl) (.plain _ _ rfl)) (by decide) (by unfold Mc Md; rw [hA,hB,hm]; rfl))
  ·have dX:=And.intro dX (And.intro @hA @hB);(repeat refine eV ?_);have dK:=And.intro @hA @hB;refine aa (hK _ (au [2,3,4,15] ?_));clear hK K;refine dI ?_ ?_<;>intro hb
   ·refine ab (dR fun K hK=>?_);(repeat refine eV ?_);refine aa (hK _ (wK [6,7] ?_));clear hK K;exact ai (am Tryz.results33 (.two (.plain _ _ rfl) (.plain _ _ rfl)) (by decide) (by unfold Mc; rw [hA,hB]; rfl))
   ·cases hb
 ·have dX:=And.intro dX (@hA);(repeat refine eV ?_);have dX:=And.intro dX (@hA);refine csF ?_;(repeat refine eV ?_);have dX:=And.intro dX (@hA);(repeat refine eV ?_);have dK:=@hA;refine aa (hK _ (au [2,3,4,15] ?_));clear hK K;refine dI ?_ ?_<;>intro hb
  ·refine ab (dR fun K hK=>?_);(repeat refine eV ?_);refine aa (hK _ (wK [6,7] ?_));clear hK K;exact ai (am Tryz.results33 (.two (.plain _ _ rfl) (.plain _ _ rfl)) (by decide) (by unfold Mc; rw [hA]; rfl))
  ·cases hb
end
section
set_option maxHeartbeats 0
set_option maxRecDepth 8000
open Go Go.RowKit
def zBBs81:=PLift.up (And.intro aq (And.intro @netO.eq_1 (And.intro @cf (And.intro bn (And.intro b7 (And.intro cd (And.intro ch (And.intro bb (And.intro ee (And.intro @if_pos.{1} (And.intro @cx (And.intro @cw (And.intro @bo (And.intro @a7 (And.intro @ba (And.intro @df (And.intro @ek (And.intro @netZ.eq_1 @trivial))))))))))))))))))
theorem G6:type_of% zBBs81.down:=zBBs81.down
theorem D0 (f:NF) (N:Net) (o:Bool) (t:TypeId) (cls:List Int) (hcl0:cls.length ≤ 100000):DCalls Tryz.prog 38 [.agg (be f N),.c (.sl o t 1 (cls.map iC))] (fun r=>r = wm N cls):=by
 refine aw Tryz.func38 rfl (by rw [Tryz.ntmps38]; simp) fun w0=>?_;rw [Tryz.ntmps38];have dX:=G6;simp only [bw,bf,Arg.av,be,b9,ints,ends];refine ab (dR fun K hK=>?_);(repeat refine eV ?_);refine aa (hK _ (wK [1,2,4] ?_));clear hK K;refine ab ?_;refine ab (dR fun K hK=>?_);(repeat refine eV ?_);refine cL rfl ⟨rfl,_,rfl⟩ (by omega) (by first | exact zp | exact Tm) (n8 ⟨false,f.t1,f.o2,f.t2,false,f.t3,false,f.t4⟩ N) ?_;rintro _ rfl;(repeat refine eV ?_);obtain hg | hg:=Bool.eq_false_or_eq_true (bg N)
 ·obtain ⟨hs,hn,hids,hdg⟩:=ep hg
  by_cases hcl:cls.length = N.ends.length
  ·have dX:=And.intro dX (And.intro @hg (And.intro @hcl @bne_self_eq_false.{0}));(repeat refine eV ?_);have dX:=And.intro dX (And.intro @hg (And.intro @hcl @bne_self_eq_false.{0}));refine cgF rfl rfl ⟨rfl,_,rfl⟩ (by omega) (by first | exact zp | exact Tm) (Of o t cls 0 ((N.ends.length:Int) - 1)) ?_;rintro _ rfl;(repeat refine eV ?_);obtain hcw | hcw:=Bool.eq_false_or_eq_true (qq cls 0 ((N.ends.length:Int) - 1))
   ·have hcx:∀ x ∈ cls,0 ≤ x ∧ x < (N.ends.length:Int):=fun x hx=>by
     have:=db.1 (List.all_eq_true.1 hcw x hx);omega
    obtain ⟨m1,hmany,hm0,hmn,hc⟩:=Oc (show 0 < cls.length by omega) hcx
    have hqd:j7 N cls = (rc cls N.ends.length m1 && bg (quN N cls m1) && pmB N (quN N cls m1) cls):=by
     have h9:(cls.all fun n=>inB n 0 ((N.ends.length:Int) - 1)) = true:=hcw;unfold j7;rw [hg,h9,hmany,Int.toNat_natCast,decide_eq_true hcl];simp only [Bool.true_and]
    have dX:=And.intro dX (And.intro @hg (And.intro @hcl (And.intro @bne_self_eq_false.{0} @hcw)));(repeat refine eV ?_);have dK:=And.intro @hg (And.intro @hcl (And.intro @bne_self_eq_false.{0} @hcw));refine aa (hK _ (au [1,2,4,28] ?_));clear hK K;refine dI ?_ ?_<;>intro hb
    ·cases hb
    ·refine af ?_;show DW _ _ _ _ _;refine ab (dR fun K hK=>?_);(repeat refine eV ?_);refine cL rfl ⟨rfl,_,rfl⟩ (by omega) (by first | exact I3) (vx o t cls (fun x hx=>by have:=hcx x hx; omega) (by omega)) ?_;rintro _ rfl;(repeat refine eV ?_);have dK:=@hmany;refine aa (hK _ (au [1,2,4,6] ?_));clear hK K;refine ab ?_;refine ab (dR fun K hK=>?_);(repeat refine eV ?_);refine aa (hK _ (wK [1,2,4,6,7] ?_));clear hK K;refine ac ?_;refine ax (X:=Nat) (fun c=>c ≤ m1 ∧ ∀ x:Nat,x < c → ∃ u,u < N.ends.length ∧ gi cls u = (x:Int)) (fun c=>[(7,.c (.p (.int .i64 c)))]) (fun c=>[]) (fun c=>m1 - c) 0 ⟨Nat.zero_le _,fun x hx=>absurd hx (Nat.not_lt_zero x)⟩ (by first | rfl | (simp only [ae,pZ,simprocAttr,Int.natCast_zero] <;> rfl)) ?_;rintro c ⟨hc1,hex⟩;intro E hE;simp only [ae,pZ,simprocAttr] at hE;subst hE;refine ab ?_;refine ab (dR fun K hK=>?_);(repeat refine eV ?_);refine aa (hK _ (wK [1,2,4,6,7,34] ?_));clear hK K;refine dI ?_ ?_<;>intro hb
     ·have hc2:c < m1:=by simpa using hb
      refine af ?_;show DW _ _ _ _ _;refine ab (ac ?_);refine ab (dR fun K hK=>?_);(repeat refine eV ?_);refine cL rfl ⟨rfl,_,rfl⟩ (by omega) (by first | exact Tl) (Oe o t cls c) ?_;rintro _ rfl;(repeat refine eV ?_);obtain hh | hh:=Bool.eq_false_or_eq_true (nk cls (c:Int))
      ·have dK:=@hh;refine aa (hK _ (au [1,2,4,6,7,40] ?_));clear hK K;refine dI ?_ ?_<;>intro hb
       ·cases hb
       ·refine af ?_;show DW _ _ _ _ _;refine dR fun K hK=>?_;(repeat refine eV ?_);have dK:=@bj;refine aa (hK _ ?_);clear hK K;show ∃ x,_ ∧ _ ∧ Weak _ _;refine ⟨c + 1,?_,?_,ay [1,2,4,6,7]⟩
        ·refine ⟨hc2,fun x hx=>?_⟩
         by_cases h:x = c
         ·obtain ⟨i,hi,he⟩:=List.getElem_of_mem (gn.1 hh);exact ⟨i,by omega,by rw [bt hi,he,h]⟩
         ·exact hex x (by omega)
        ·omega
      ·have hno:j7 N cls = false:=by
        have h9:rc cls N.ends.length m1 = false:=Bool.eq_false_iff.2 fun h=>by
         obtain ⟨u,hu,he⟩:=lh.1 h c hc2;have h8:nk cls (c:Int) = true:=Cq (by omega) he;rw [hh] at h8; cases h8
        rw [hqd,h9]; rfl
       have dK:=@hh;refine aa (hK _ (au [1,2,4,6,7,40] ?_));clear hK K;refine dI ?_ ?_<;>intro hb
       ·refine ab (dR fun K hK=>?_);(repeat refine eV ?_);refine aa (hK _ (wK [4,5] ?_));clear hK K;refine az 4 0 95 1 (by decide) rfl rfl [4,5] (by simp only [ae,pZ,simprocAttr,List.modify_zero_cons,List.modify_succ_cons]; exact rfl) ?_;refine az 4 1 3 1 (by decide) rfl rfl [4,5] (by simp only [ae,pZ,simprocAttr,List.modify_zero_cons,List.modify_succ_cons]; exact rfl) ?_;refine az 4 2 3 1 (by decide) rfl rfl [4,5] (by simp only [ae,pZ,simprocAttr,List.modify_zero_cons,List.modify_succ_cons]; exact rfl) ?_;exact ai (am Tryz.results38 (.two (.cell 4 _ _ _ _ rfl rfl aq rfl rfl (ao ku)) (.plain _ _ rfl)) (by decide) (by rw [gu hno]; rfl))
       ·cases hb
     ·have hc2:c = m1:=by
       have:¬ c < m1:=by simpa using hb
       omega
      subst hc2;obtain ⟨e1,e2⟩:=U3 (N:=N) (cls:=cls) (m:=c) (fun v hv=>hc v (by omega)) hex
      have hcq:cqN N cls c N.ends.length = quN N cls c:=by
       show (⟨_,_,_⟩:Net) = _;rw [e1,e2]; rfl
      have hon:rc cls N.ends.length c = true:=lh.2 hex;rw [hon,Bool.true_and] at hqd;have hca:DCalls Tryz.prog 84 [.agg (be ⟨false,f.t1,f.o2,f.t2,false,f.t3,false,f.t4⟩ N),.agg (netO (quN N cls c)),.c (.sl o t 1 (cls.map iC))] (fun r=>r = [.c (.p (.bool (bg N && bg (quN N cls c) && pmB N (quN N cls c) cls)))]):=Q4 ⟨false,f.t1,f.o2,f.t2,false,f.t3,false,f.t4⟩ NFo N (quN N cls c) o t cls (by omega);rw [hg,Bool.true_and,← hqd] at hca;simp only [be,b9,ints,ends] at hca;have hcoq:=xh ⟨false,f.t1,f.o2,f.t2,false,f.t3,false,f.t4⟩ N o t cls c hs (gd hg) (by omega) hdg (by omega) hcl (fun v hv=>hc v (by omega));rw [hcq] at hcoq;refine an ?_;refine bd [1,2,4,6] (by simp only [ae,pZ,simprocAttr]; exact rfl) ?_;refine ab (dR fun K hK=>?_);(repeat refine eV ?_);refine cL rfl ⟨rfl,_,rfl⟩ (by omega) (by first | exact Tk) (hcoq) ?_;rintro _ rfl;(repeat refine eV ?_);have dK:=@netO.eq_1;refine aa (hK _ (au [1,2,4,8] ?_));clear hK K;refine ab ?_;refine ab (dR fun K hK=>?_);(repeat refine eV ?_);refine cL rfl ⟨rfl,_,rfl⟩ (by omega) (by first | exact jch) (hca) ?_;rintro _ rfl;(repeat refine eV ?_);obtain hb2 | hb2:=Bool.eq_false_or_eq_true (j7 N cls)
      ·have dK:=@hb2;refine aa (hK _ (au [4,8,50] ?_));clear hK K;refine dI ?_ ?_<;>intro hb
       ·cases hb
       ·refine af ?_;show DW _ _ _ _ _;refine ab (dR fun K hK=>?_);(repeat refine eV ?_);refine aa (hK _ (wK [4,5] ?_));clear hK K;exact ai (am Tryz.results38 (.two (.cell 4 _ _ _ _ rfl rfl aq rfl rfl (ao (quN N cls c))) (.plain _ _ rfl)) (by decide) (by rw [qy hb2,hmany,Int.toNat_natCast]; rfl))
      ·have dK:=@hb2;refine aa (hK _ (au [4,8,50] ?_));clear hK K;refine dI ?_ ?_<;>intro hb
       ·refine ab (dR fun K hK=>?_);(repeat refine eV ?_);refine aa (hK _ (wK [4,5] ?_));clear hK K;refine az 4 0 95 1 (by decide) rfl rfl [4,5] (by simp only [ae,pZ,simprocAttr,List.modify_zero_cons,List.modify_succ_cons]; exact rfl) ?_;refine az 4 1 3 1 (by decide) rfl rfl [4,5] (by simp only [ae,pZ,simprocAttr,List.modify_zero_cons,List.modify_succ_cons]; exact rfl) ?_;refine az 4 2 3 1 (by decide) rfl rfl [4,5] (by simp only [ae,pZ,simprocAttr,List.modify_zero_cons,List.modify_succ_cons]; exact rfl) ?_;exact ai (am Tryz.results38 (.two (.cell 4 _ _ _ _ rfl rfl aq rfl rfl (ao ku)) (.plain _ _ rfl)) (by decide) (by rw [gu hb2]; rfl))
       ·cases hb
   ·have hno:j7 N cls = false:=by
     have h9:(cls.all fun n=>inB n 0 ((N.ends.length:Int) - 1)) = false:=hcw;unfold j7;rw [h9]; simp only [Bool.and_false,Bool.false_and]
    have dX:=And.intro dX (And.intro @hg (And.intro @hcl (And.intro @bne_self_eq_false.{0} @hcw)));(repeat refine eV ?_);have dK:=And.intro @hg (And.intro @hcl (And.intro @bne_self_eq_false.{0} @hcw));refine aa (hK _ (au [1,2,4,28] ?_));clear hK K;refine dI ?_ ?_<;>intro hb
    ·refine ab (dR fun K hK=>?_);(repeat refine eV ?_);refine aa (hK _ (wK [4,5] ?_));clear hK K;refine az 4 0 95 1 (by decide) rfl rfl [4,5] (by simp only [ae,pZ,simprocAttr,List.modify_zero_cons,List.modify_succ_cons]; exact rfl) ?_;refine az 4 1 3 1 (by decide) rfl rfl [4,5] (by simp only [ae,pZ,simprocAttr,List.modify_zero_cons,List.modify_succ_cons]; exact rfl) ?_;refine az 4 2 3 1 (by decide) rfl rfl [4,5] (by simp only [ae,pZ,simprocAttr,List.modify_zero_cons,List.modify_succ_cons]; exact rfl) ?_;exact ai (am Tryz.results38 (.two (.cell 4 _ _ _ _ rfl rfl aq rfl rfl (ao ku)) (.plain _ _ rfl)) (by decide) (by rw [gu hno]; rfl))
    ·cases hb
  ·have hne:((cls.length:Int) != (N.ends.length:Int)) = true:=by rw [bne_iff_ne]; omega
   have hno:j7 N cls = false:=by unfold j7; rw [decide_eq_false hcl]; simp only [Bool.and_false,Bool.false_and]
   have dX:=And.intro dX (And.intro @hg @hne);(repeat refine eV ?_);have dX:=And.intro dX (And.intro @hg @hne);refine csF ?_;(repeat refine eV ?_);have dX:=And.intro dX (And.intro @hg @hne);(repeat refine eV ?_);have dK:=And.intro @hg @hne;refine aa (hK _ (au [1,2,4,28] ?_));clear hK K;refine dI ?_ ?_<;>intro hb
   ·refine ab (dR fun K hK=>?_);(repeat refine eV ?_);refine aa (hK _ (wK [4,5] ?_));clear hK K;refine az 4 0 95 1 (by decide) rfl rfl [4,5] (by simp only [ae,pZ,simprocAttr,List.modify_zero_cons,List.modify_succ_cons]; exact rfl) ?_;refine az 4 1 3 1 (by decide) rfl rfl [4,5] (by simp only [ae,pZ,simprocAttr,List.modify_zero_cons,List.modify_succ_cons]; exact rfl) ?_;refine az 4 2 3 1 (by decide) rfl rfl [4,5] (by simp only [ae,pZ,simprocAttr,List.modify_zero_cons,List.modify_succ_cons]; exact rfl) ?_;exact ai (am Tryz.results38 (.two (.cell 4 _ _ _ _ rfl rfl aq rfl rfl (ao ku)) (.plain _ _ rfl)) (by decide) (by rw [gu hno]; rfl))
   ·cases hb
 ·have hno:j7 N cls = false:=by unfold j7; rw [hg]; simp only [Bool.false_and]
  have dX:=And.intro dX (@hg);(repeat refine eV ?_);have dX:=And.intro dX (@hg);refine csF ?_;(repeat refine eV ?_);have dX:=And.intro dX (@hg);(repeat refine eV ?_);have dK:=@hg;refine aa (hK _ (au [1,2,4,28] ?_));clear hK K;refine dI ?_ ?_<;>intro hb
  ·refine ab (dR fun K hK=>?_);(repeat refine eV ?_);refine aa (hK _ (wK [4,5] ?_));clear hK K;refine az 4 0 95 1 (by decide) rfl rfl [4,5] (by simp only [ae,pZ,simprocAttr,List.modify_zero_cons,List.modify_succ_cons]; exact rfl) ?_;refine az 4 1 3 1 (by decide) rfl rfl [4,5] (by simp only [ae,pZ,simprocAttr,List.modify_zero_cons,List.modify_succ_cons]; exact rfl) ?_;refine az 4 2 3 1 (by decide) rfl rfl [4,5] (by simp only [ae,pZ,simprocAttr,List.modify_zero_cons,List.modify_succ_cons]; exact rfl) ?_;exact ai (am Tryz.results38 (.two (.cell 4 _ _ _ _ rfl rfl aq rfl rfl (ao ku)) (.plain _ _ rfl)) (by decide) (by rw [gu hno]; rfl))
  ·cases hb
def coBaseSt2:Nat → Stat
 | 0=>⟨[1],[(1,1)],[1],[6],[],[]⟩
 | 1=>⟨[3],[],[],[7],[],[]⟩
 | 2=>⟨[3],[],[],[8],[],[]⟩
 | 3=>⟨[8],[],[3],[9],[],[]⟩
 | 4=>⟨[6,7,9],[],[3],[10],[],[]⟩
 | 5=>⟨[2,10],[(2,1)],[10],[],[(2,1),(10,1)],[]⟩
 | _=>⟨[],[],[],[],[],[]⟩
theorem Jw (f:NF) (N:Net) (d:Nat) (hf:Fair N) (hin:N.inputs.length = N.ends.length) (hl:N.ends.length ≤ 1000) (hp:0 < N.ends.length) (hdg:∀ v,(gl N.ends v).length ≤ 1000) (hd:IsSd N d):DCalls Tryz.prog 73 [.agg (be f N)] (fun r=>r = [.own true (netO (cqN N (bv N d) (br N d) N.ends.length))]):=by
 have hr:=hf.rng hp;have hmn:=ll N d;have hcl:=di N d;have hmc:du (bv N d) = (br N d:Int):=rj N d;refine aw Tryz.func73 rfl (by rw [Tryz.ntmps73]; simp) fun w0=>?_;rw [Tryz.ntmps73];have dX:=G6;simp only [bw,bf,Arg.av,be,b9,ints,ends];refine ab (dR fun K hK=>?_);(repeat refine eV ?_);refine aa (hK _ (wK [1,2] ?_));clear hK K;refine ab (dR fun K hK=>?_);(repeat refine eV ?_);refine cL rfl ⟨rfl,_,rfl⟩ (by omega) (by first | exact Tx) (Ed ⟨false,f.t1,f.o2,f.t2,false,f.t3,false,f.t4⟩ N d hf hin hl hp hd) ?_;rintro _ rfl;(repeat refine eV ?_);refine aa (hK _ (wK [1,2,3] ?_));clear hK K;have dX:=And.intro dX (@coBaseSt2.eq_def);refine ab (cm coBaseSt2 (fun j r=>match j with | 3=>r = [.c (.p (.int .i64 (du (bv N d))))] | 4=>r = [.own true (netO (cqN N (bv N d) (br N d) N.ends.length))] | _=>True) fun K hK=>?_);(repeat refine dV ?_);have dX:=And.intro dX (@coBaseSt2.eq_def);refine dcF rfl ⟨rfl,_,rfl⟩ (by omega) (by first | exact I3 | exact Tk) (vx true 3 (bv N d) (y8 (by omega) _) (by omega)) ?_;rintro _ rfl;(repeat refine dV ?_);have dX:=And.intro dX (And.intro @coBaseSt2.eq_def @hmc);refine dcF rfl ⟨rfl,_,rfl⟩ (by omega) (by first | exact I3 | exact Tk) (xh ⟨false,f.t1,f.o2,f.t2,false,f.t3,false,f.t4⟩ N true 3 (bv N d) (br N d) hf.sym hin hl hdg (by omega) hcl (fun v hv=>fx hv)) ?_;rintro _ rfl;(repeat refine dV ?_);have dK:=@netO.eq_1;refine ak (hK _ (au [2] ?_));clear hK K;exact ai (am Tryz.results73 (.one (.cell 2 _ _ _ _ rfl rfl aq rfl rfl (ao (cqN N (bv N d) (br N d) N.ends.length)))) (by decide) rfl)
theorem U2 {N:Net} {d:Nat} (hr:Rng N) (hd:IsSd N d):cqN N (bv N d) (br N d) N.ends.length = quN N (bv N d) (br N d):=by
 obtain ⟨e1,e2⟩:=U3 (N:=N) (cls:=bv N d) (m:=br N d) (fun v hv=>fx hv) (fun c hc=>ip hd hr hc);show (⟨_,_,_⟩:Net) = _;rw [e1,e2]; rfl
theorem Dq (f:NF) (N:Net) (d:Nat) (hg:bg N = true) (hd:IsSd N d):DCalls Tryz.prog 30 [.agg (be f N)] (fun r=>r = [.own true (netO (quN N (bv N d) (br N d))),.c (.p (.bool true))]):=by
 obtain ⟨hs,hn,hids,hdg⟩:=ep hg;have hcb:=Jw ⟨false,f.t1,f.o2,f.t2,false,f.t3,false,f.t4⟩ N d (jv hg).fair (gd hg) (by omega) (by omega) hdg hd;rw [U2 (ju hg) hd] at hcb;refine aw Tryz.func30 rfl (by rw [Tryz.ntmps30]; simp) fun w0=>?_;rw [Tryz.ntmps30];have dX:=G6;simp only [bw,bf,Arg.av,be,b9,ints,ends];refine ab (dR fun K hK=>?_);(repeat refine eV ?_);refine aa (hK _ (wK [1,2] ?_));clear hK K;refine ab ?_;refine ab (dR fun K hK=>?_);(repeat refine eV ?_);refine cL rfl ⟨rfl,_,rfl⟩ (by omega) (by first | exact zp) (n8 ⟨false,f.t1,f.o2,f.t2,false,f.t3,false,f.t4⟩ N) ?_;rintro _ rfl;(repeat refine eV ?_);have dK:=@hg;refine aa (hK _ (au [1,2,6] ?_));clear hK K;refine dI ?_ ?_<;>intro hb
 ·cases hb
 ·refine af ?_;show DW _ _ _ _ _;refine ab (dR fun K hK=>?_);(repeat refine eV ?_);refine cL rfl ⟨rfl,_,rfl⟩ (by omega) (by first | exact Yn) (hcb) ?_;rintro _ rfl;(repeat refine eV ?_);have dK:=@netO.eq_1;refine aa (hK _ (au [2,3] ?_));clear hK K;exact ai (am Tryz.results30 (.two (.cell 2 _ _ _ _ rfl rfl aq rfl rfl (ao _)) (.plain _ _ rfl)) (by decide) rfl)
theorem Aj (f:NF) (N:Net) (hg:bg N = false):DCalls Tryz.prog 30 [.agg (be f N)] (fun r=>r = [.own true (netO ku),.c (.p (.bool false))]):=by
 refine aw Tryz.func30 rfl (by rw [Tryz.ntmps30]; simp) fun w0=>?_;rw [Tryz.ntmps30];have dX:=G6;simp only [bw,bf,Arg.av,be,b9,ints,ends];refine ab (dR fun K hK=>?_);(repeat refine eV ?_);refine aa (hK _ (wK [1,2] ?_));clear hK K;refine ab ?_;refine ab (dR fun K hK=>?_);(repeat refine eV ?_);refine cL rfl ⟨rfl,_,rfl⟩ (by omega) (by first | exact zp) (n8 ⟨false,f.t1,f.o2,f.t2,false,f.t3,false,f.t4⟩ N) ?_;rintro _ rfl;(repeat refine eV ?_);have dK:=@hg;refine aa (hK _ (au [1,2,6] ?_));clear hK K;refine dI ?_ ?_<;>intro hb
 ·refine ab (dR fun K hK=>?_);(repeat refine eV ?_);refine aa (hK _ (wK [2,3] ?_));clear hK K;refine az 2 0 95 1 (by decide) rfl rfl [2,3] (by simp only [ae,pZ,simprocAttr,List.modify_zero_cons,List.modify_succ_cons]; exact rfl) ?_;refine az 2 1 3 1 (by decide) rfl rfl [2,3] (by simp only [ae,pZ,simprocAttr,List.modify_zero_cons,List.modify_succ_cons]; exact rfl) ?_;refine az 2 2 3 1 (by decide) rfl rfl [2,3] (by simp only [ae,pZ,simprocAttr,List.modify_zero_cons,List.modify_succ_cons]; exact rfl) ?_;exact ai (am Tryz.results30 (.two (.cell 2 _ _ _ _ rfl rfl aq rfl rfl (ao ku)) (.plain _ _ rfl)) (by decide) rfl)
 ·cases hb
end
section
open Go Go.RowKit
def coverSt24:Nat → Stat
 | 0=>⟨[7],[],[],[79],[],[]⟩
 | 1=>⟨[0],[],[],[80],[],[]⟩
 | 2=>⟨[7],[],[],[81],[],[]⟩
 | 3=>⟨[81],[(7,1)],[],[82],[],[]⟩
 | 4=>⟨[80,82],[],[99],[83],[(99,1)],[]⟩
 | 5=>⟨[0],[],[],[84],[],[]⟩
 | 6=>⟨[5],[(5,1)],[],[85],[],[]⟩
 | 7=>⟨[85],[(5,1)],[],[86],[],[]⟩
 | 8=>⟨[86],[],[],[87],[],[]⟩
 | 9=>⟨[87],[],[],[88],[],[]⟩
 | 10=>⟨[84,88],[(88,1)],[99,88],[89],[(99,1)],[]⟩
 | 11=>⟨[79,83],[(7,1)],[],[90],[],[]⟩
 | 12=>⟨[90,89],[(7,2)],[],[],[(7,2)],[]⟩
 | _=>⟨[],[],[],[],[],[]⟩
def coverSt27:Nat → Stat
 | 0=>⟨[6],[(6,1)],[6],[96],[],[]⟩
 | 1=>⟨[5],[(5,1)],[5],[97],[],[]⟩
 | 2=>⟨[7],[],[],[98],[],[]⟩
 | 3=>⟨[2,96],[(2,1)],[],[],[(2,1)],[]⟩
 | 4=>⟨[3,97],[(3,1)],[],[],[(3,1)],[]⟩
 | 5=>⟨[98],[],[7],[4],[(7,1)],[]⟩
 | _=>⟨[],[],[],[],[],[]⟩
def coverSt22:Nat → Stat
 | 0=>⟨[5],[(5,1)],[5],[69],[],[]⟩
 | 1=>⟨[],[],[],[70],[],[]⟩
 | 2=>⟨[69,70],[],[5,70],[71],[],[]⟩
 | 3=>⟨[5,71],[(5,1)],[71],[],[(5,1),(71,1)],[]⟩
 | _=>⟨[],[],[],[],[],[]⟩
def coverSt5:Nat → Stat
 | 0=>⟨[0],[],[],[17],[],[]⟩
 | 1=>⟨[5],[(5,1)],[5],[18],[],[]⟩
 | 2=>⟨[0],[],[],[19],[],[]⟩
 | 3=>⟨[19],[],[99],[20],[(99,1)],[]⟩
 | 4=>⟨[20],[],[],[21],[],[]⟩
 | 5=>⟨[17,18,21],[],[99,5],[22],[(99,1)],[]⟩
 | 6=>⟨[22],[],[],[16],[],[(22,1),(22,2)]⟩
 | 7=>⟨[16],[],[],[23],[],[(16,1)]⟩
 | 8=>⟨[16],[],[],[24],[],[(16,2)]⟩
 | 9=>⟨[6,23],[(6,1)],[23],[],[(6,1),(23,1)],[]⟩
 | 10=>⟨[24],[],[24],[7],[(24,1)],[]⟩
 | _=>⟨[],[],[],[],[],[]⟩
theorem Po {N:Net} {m d:Nat} {p:Nat → Nat} (h:Drawn m d N) (hp:sb N.ends.length p):Drawn m d (rnN N p):=by
 have hl:(rnN N p).ends.length = N.ends.length:=o7 _;refine ⟨by rw [hl]; exact h.pos,by rw [hl]; exact h.len,Zg h.sym hp,Zh hp (fun v=>h.deg v),?_,?_⟩
 ·have:(rnN N p).ids.length = N.ids.length:=F5 _;rw [this]; exact h.ids
 ·rw [hl];exact (F4 _).trans h.ins
theorem O1 {N:Net} {cls:List Int} {m d:Nat} (hd:∀ v,(gl N.ends v).length ≤ d):∀ j a,(gl (cqE N cls m j) a).length ≤ d
 | 0,a=>by
  have:gl (cqE N cls m 0) a = []:=by
   unfold gl cqE;rw [List.getD_eq_getElem?_getD,List.getElem?_replicate];split <;> rfl
  rw [this]; exact Nat.zero_le _
 | j + 1,a=>by
  rw [cqE,om];split
  ·rw [Hb]; exact hd _
  ·exact O1 hd j a
theorem U5 {N:Net} {cls:List Int} {m j:Nat} (hd:∀ v,(gl N.ends v).length ≤ 600) (hm:m ≤ 64):Tame (cqN N cls m j) :=
 ⟨by show (cqE N cls m j).length ≤ 64; rw [pu]; exact hm,fun a=>O1 hd j a,Nat.zero_le _,by show (cqI N cls m j).length ≤ 64; rw [sw]; exact hm⟩
theorem Ju:Sym (mc 2 2).ends:=fun a i ha hi=>by
 have ha:a < 2:=ha;have h0:a = 0 ∨ a = 1:=by omega
 rcases h0 with rfl | rfl
 ·have hi:i < 2:=hi;have h1:i = 0 ∨ i = 1:=by omega
  rcases h1 with rfl | rfl
  ·exact ⟨1,1,rfl,by decide,by decide,rfl⟩
  ·exact ⟨1,0,rfl,by decide,by decide,rfl⟩
 ·have hi:i < 2:=hi;have h1:i = 0 ∨ i = 1:=by omega
  rcases h1 with rfl | rfl
  ·exact ⟨0,1,rfl,by decide,by decide,rfl⟩
  ·exact ⟨0,0,rfl,by decide,by decide,rfl⟩
theorem cyc2_drawn:Drawn 2 2 (mc 2 2):=⟨by decide,by decide,Ju,fun a=>by
 unfold dg
 have h:∀ a,gl (mc 2 2).ends a = [] ∨ (gl (mc 2 2).ends a).length = 2:=fun a=>by
  rcases Nat.lt_or_ge a 2 with h | h
  ·have h0:a = 0 ∨ a = 1:=by omega
   rcases h0 with rfl | rfl <;> exact .inr rfl
  ·left;unfold gl;rw [List.getD_eq_getElem?_getD,List.getElem?_eq_none (by rw [Oy]; omega)]; rfl
 rcases h a with h | h <;> rw [h] <;> decide,by decide,by decide⟩
theorem Mb:er (mc 2 2):=cyc2_drawn.small (by omega) (by omega)
theorem Kn {N:Net} (h:Drawn 12 400 N):Tame (jp N (mc 2 2)):=(h.union cyc2_drawn).tame (by omega) (by omega)
theorem P6:Drawn 36 400 ⟨[[]],[],[0]⟩:=⟨by decide,by decide,fun a i ha hi=>by
 have ha:a < 1:=ha;have h0:a = 0:=by omega
 subst h0
 exact absurd hi (Nat.not_lt_zero i),fun a=>by
  unfold dg gl
  cases a <;> simp,by decide,by decide⟩
def jdr (rs:Res):Prop:=∃ (A B:Net) (m:List Int),rs = [.agg (netZ A),.agg (netZ B),.own false [.sl true 3 1 (m.map iC)]] ∧ Tame A ∧ Tame B ∧ m.length ≤ 64
def zBBsa1:=PLift.up (And.intro aq (And.intro @netO.eq_1 (And.intro @cf (And.intro bn (And.intro b7 (And.intro cd (And.intro ch (And.intro bb (And.intro ee (And.intro @if_pos.{1} (And.intro @cx (And.intro @cw (And.intro @bo (And.intro @a7 (And.intro @ba (And.intro @df (And.intro @ek (And.intro M7 (And.intro qt (And.intro M8 @trivial))))))))))))))))))))
theorem ja2:type_of% zBBsa1.down:=zBBsa1.down
set_option maxRecDepth 8000 in
set_option maxHeartbeats 0 in
theorem Xv (bs:List Int) (p:Nat) (s:Int) (B:Nat) (hby:dp bs) (hp:p ≤ B) (hB:B + 1152921504800000000 ≤ 4611686018427387900):dr Tryz.prog 78 [.io 69 (curC bs p s)] (CurO bs (B + 1152921504800000000) jdr):=by
 refine fz Tryz.func78 rfl (by rw [Tryz.ntmps78]; simp) fun w0=>?_;rw [Tryz.ntmps78];have dX:=ja2;simp only [jt,bf,Arg.av,curC,be,b9,ints,ends];refine ab (dR fun K hK=>?_);(repeat refine eV ?_);refine aa (hK _ (wK [0,2,3,99] ?_));clear hK K;refine ab (dR fun K hK=>?_);(repeat refine eV ?_);refine qn rfl ⟨rfl,_,rfl⟩ (by omega) (by first | exact Cj) (Nx bs p s 5 _ _ rfl hby hp (by omega) (by omega) (by omega)) ?_;rintro _ ⟨p1,s1,_,rfl,hp1,N1,rfl,ht1⟩;refine ioF ?_;(repeat refine eV ?_);have dK:=@netO.eq_1;refine aa (hK _ (au [0,2,3,5,99] ?_));clear hK K;refine vj 5 [0,2,3,5,99] (by simp only [ae,pZ,simprocAttr]; exact rfl) ?_;have hD1:Drawn 12 400 N1:=ht1.mono (by omega) (by omega);have hT1:Tame N1:=hD1.tame (by omega) (by omega);refine ab (dR fun K hK=>?_);(repeat refine eV ?_);refine aa (hK _ (wK [0,2,3,5,6,99] ?_));clear hK K;refine ab (dR fun K hK=>?_);(repeat refine eV ?_);refine aa (hK _ (wK [0,2,3,5,6,7,99] ?_));clear hK K;refine pn (X:=Net × Net × List Int × Nat × Int) (fun x=>Drawn 40 500 x.1 ∧ Tame x.2.1 ∧ x.2.2.1.length ≤ 64 ∧ x.2.2.2.1 ≤ B + 1152921504700000000) (fun x=>mkE 99 [(0,.ptr 99 0 [(0,0)] 0),(2,.box),(3,.box),(5,.box),(6,.box),(7,.own false 1),(99,.dead)] [((2,0),⟨some 31,[.p (.slice none 0 0),.p (.slice none 0 0),.p (.slice none 0 0)]⟩),((3,0),⟨some 31,[.p (.slice none 0 0),.p (.slice none 0 0),.p (.slice none 0 0)]⟩),((5,0),⟨some 31,[.sl false 95 1 (x.2.1.ends.map (esC 97)),.sl false 3 1 (x.2.1.ids.map iC),.sl false 3 1 (x.2.1.inputs.map iC)]⟩),((6,0),⟨some 31,[.sl false 95 1 (x.1.ends.map (esC 97)),.sl false 3 1 (x.1.ids.map iC),.sl false 3 1 (x.1.inputs.map iC)]⟩),((7,0),⟨none,[.sl true 3 1 (x.2.2.1.map iC)]⟩),((99,0),⟨some 69,[.sl false 5 1 (bs.map bC),.p (.int .i64 x.2.2.2.1),.p (.int .u64 x.2.2.2.2)]⟩)]) ?_ ?_
 ·refine ab (dR fun K hK=>?_);(repeat refine eV ?_);refine kg rfl ⟨rfl,_,rfl⟩ (by omega) (by first | exact fg) (ew bs p1 s1 4 _ hby hp1 (by omega)) ?_;rintro _ ⟨p2,s2,_,rfl,hp2,x2,rfl,hx2⟩;refine ioF ?_;(repeat refine eV ?_);refine aa (hK _ (wK [0,2,3,5,6,7,15,99] ?_));clear hK K;refine ac ?_;refine ab (dR fun K hK=>?_);(repeat refine eV ?_);refine aa (hK _ (wK [0,2,3,5,6,7,15,53,99] ?_));clear hK K;refine dI ?_ ?_<;>intro hb
  ·refine ab (dR fun K hK=>?_);(repeat refine eV ?_);refine qn rfl ⟨rfl,_,rfl⟩ (by omega) (by first | exact Cj) (Nx bs p2 s2 7 _ _ rfl hby hp2 (by omega) (by omega) (by omega)) ?_;rintro _ ⟨p3,s3,_,rfl,hp3,N3,rfl,ht3⟩;refine ioF ?_;(repeat refine eV ?_);have dK:=@netO.eq_1;refine aa (hK _ (au [0,2,3,5,6,7,99] ?_));clear hK K;have hN3:=ht3.pos;have hN3l:=ht3.len;have hdg3:∀ v,(gl N3.ends v).length ≤ 400:=fun v=>ht3.deg v;have hF3:Fair N3:=⟨ht3.sym,fun v _=>by have:=ht3.deg v; omega⟩;obtain ⟨d3,hd3⟩:=Sp (hF3.rng (by omega));have hvl:=di N3 d3;have hvm:=ll N3 d3;refine ab (dR fun K hK=>?_);(repeat refine eV ?_);refine cL rfl ⟨rfl,_,rfl⟩ (by omega) (by first | exact Tx) (Ed NFo N3 d3 hF3 ht3.ins (by omega) (by omega) hd3) ?_;rintro _ rfl;(repeat refine eV ?_);refine aa (hK _ (wK [0,2,3,5,6,7,99] ?_));clear hK K;refine dR fun K hK=>?_;(repeat refine eV ?_);refine cL rfl ⟨rfl,_,rfl⟩ (by omega) (by first | exact Yn) (Jw NFo N3 d3 hF3 ht3.ins (by omega) (by omega) (fun v=>by have:=hdg3 v; omega) hd3) ?_;rintro _ rfl;(repeat refine eV ?_);refine aa (hK _ ?_);clear hK K;show ∃ x,_ ∧ Weak _ _;refine ⟨(N3,cqN N3 (bv N3 d3) (br N3 d3) N3.ends.length,bv N3 d3,p3,s3),?_,((gf _ 6).trans ((gf _ 5).trans (ce _ [0,2,3,5,6,7,99]))).trans (Weak.of_eq (by simp only [ae,pZ,simprocAttr ,netO] <;> exact rfl))⟩;exact ⟨ht3.mono (by omega) (by omega),U5 (fun v=>by have:=hdg3 v; omega) (by omega),by dsimp only; omega,by dsimp only; omega⟩
  ·refine ab (dR fun K hK=>?_);(repeat refine eV ?_);refine aa (hK _ (wK [0,2,3,5,6,7,15,61,99] ?_));clear hK K;refine dI ?_ ?_<;>intro hb
   ·refine ab (dR fun K hK=>?_);(repeat refine eV ?_);refine qn rfl ⟨rfl,_,rfl⟩ (by omega) (by first | exact Ll) (T1 bs p2 s2 NFz N1 1 _ hby hp2 (by omega) hD1 (by omega) (by omega)) ?_;rintro _ ⟨p3,s3,_,rfl,hp3,A3,l3,rfl,hA3,hi3,hl3⟩;refine ioF ?_;(repeat refine eV ?_);have dK:=@netO.eq_1;refine aa (hK _ (au [0,2,3,5,6,7,99] ?_));clear hK K;have hA3l:=hA3.len;have dX:=And.intro dX (@coverSt22.eq_def);refine cm coverSt22 (fun j r=>match j with | 1=>r = [.own true (netO (mc 2 2))] | 2=>r = [.own true (netO (jp N1 (mc 2 2)))] | _=>True) fun K hK=>?_;(repeat refine dV ?_);have dX:=And.intro dX (@coverSt22.eq_def);refine dcF rfl ⟨rfl,_,rfl⟩ (by omega) (by first | exact Tw | exact ut) (Q5 2 (by omega) (by omega)) ?_;rintro _ rfl;(repeat refine dV ?_);have dX:=And.intro dX (@coverSt22.eq_def);refine dcF rfl ⟨rfl,_,rfl⟩ (by omega) (by first | exact Tw | exact ut) (Ew NFz NFo N1 (mc 2 2) hT1.small Mb Ju) ?_;rintro _ rfl;(repeat refine dV ?_);refine ak (hK _ ?_);clear hK K;show ∃ x,_ ∧ Weak _ _;refine ⟨(A3,jp N1 (mc 2 2),l3,p3,s3),?_,((gf _ 6).trans ((gf _ 5).trans (ce _ [0,2,3,5,6,7,99]))).trans (Weak.of_eq (by simp only [ae,pZ,simprocAttr ,netO] <;> exact rfl))⟩;exact ⟨hA3.mono (by omega) (by omega),Kn hD1,by dsimp only; omega,by dsimp only; omega⟩
   ·have dX:=And.intro dX (@coverSt5.eq_def);refine ab (cm coverSt5 (fun j r=>match j with | 3=>CurO bs (B + 1152921504700000000 - 5000000 + 2) (fun rs=>∃ x,rs = [.c (.p (.int .i64 x))] ∧ n5 3 x) r | 5=>CurO bs (B + 1152921504700000000 - 5000000 + 2 + 1000000) (fun rs=>∃ (M:Net) (ps:List Int),rs = [.own true (netO M),.own false [.sl true 3 1 (ps.map iC)]] ∧ Drawn 36 400 M ∧ M.ids = [] ∧ ps.length = M.ends.length) r | _=>True) fun K hK=>?_);(repeat refine dV ?_);have dX:=And.intro dX (@coverSt5.eq_def);refine rx rfl ⟨rfl,_,rfl⟩ (by omega) (by first | exact fg | exact Ll) (ew bs p2 s2 3 (B + 1152921504700000000 - 5000000) hby (by omega) (by omega)) (CurO.ex ⟨_,0,rfl,tn _⟩) ?_;rintro _ ⟨p3,s3,_,rfl,hp3,x3,rfl,hx3⟩;refine po ?_;(repeat refine dV ?_);obtain ⟨y3,rfl⟩:=Int.eq_ofNat_of_zero_le hx3.1;have hy3:y3 < 3:=by have:=hx3.2.2; omega
    have hy31:(1:Int) + (y3:Int) = ((y3 + 1:Nat):Int):=by omega
    have dX:=And.intro dX (@hy31);(repeat refine dV ?_);have dX:=And.intro dX (@coverSt5.eq_def);refine jcv rfl ⟨rfl,_,rfl⟩ (by omega) (by first | exact fg | exact Ll) (T1 bs p3 s3 NFz N1 (y3 + 1) (B + 1152921504700000000 - 5000000 + 2) hby (by omega) (by omega) hD1 (by omega) (by omega)) (CurO.ex ⟨_,⟨[[]],[],[0]⟩,[0],rfl,P6,rfl,rfl⟩) ?_;rintro _ ⟨p4,s4,_,rfl,hp4,A4,l4,rfl,hA4,hi4,hl4⟩;refine po ?_;(repeat refine dV ?_);have hA4l:=hA4.len;have dK:=@netO.eq_1;refine ak (hK _ (au [0,2,3,5,6,7,99] ?_));clear hK K;refine ab (dR fun K hK=>?_);(repeat refine eV ?_);refine kg rfl ⟨rfl,_,rfl⟩ (by omega) (by first | exact tr) (tq bs p4 s4 2 _ hby hp4 (by omega)) ?_;rintro _ ⟨p5,s5,_,rfl,hp5,b5,rfl⟩;refine ioF ?_;(repeat refine eV ?_);refine aa (hK _ (wK [0,2,3,5,6,7,26,99] ?_));clear hK K;refine dI ?_ ?_<;>intro hb
    ·refine ab (dR fun K hK=>?_);(repeat refine eV ?_);refine kg rfl ⟨rfl,_,rfl⟩ (by omega) (by first | exact Ey) (B5 bs p5 s5 A4.ends.length _ hby hp5 (by omega) (by omega)) ?_;rintro _ ⟨p6,s6,_,rfl,hp6,l6,rfl,hl6⟩;refine ioF ?_;(repeat refine eV ?_);obtain ⟨hll,hlp,hlg⟩:=ui hl6;refine aa (hK _ (wK [0,2,3,5,6,7,8,99] ?_));clear hK K;refine ab (dR fun K hK=>?_);(repeat refine eV ?_);refine cL rfl ⟨rfl,_,rfl⟩ (by omega) (by first | exact Zx) (Gh NFo A4 true 3 l6 (nF l6) (hA4.small (by omega) (by omega)) hA4.sym hA4.ins (.inl hi4) hll hlp hlg) ?_;rintro _ rfl;(repeat refine eV ?_);have dK:=@netO.eq_1;refine aa (hK _ (au [0,2,3,5,6,7,8,99] ?_));clear hK K;refine C4 7 [0,2,3,5,6,7,8,99] rfl rfl (by simp only [ae,pZ,simprocAttr,Ii,En,wj,wh,ny]; exact rfl) ?_;refine ab (dR fun K hK=>?_);(repeat refine eV ?_);refine aa (hK _ (wK [0,2,3,5,6,7,8,9,99] ?_));clear hK K;refine ab (dR fun K hK=>?_);(repeat refine eV ?_);refine cL rfl ⟨rfl,_,rfl⟩ (by omega) (by first | exact Z0) (Xa false 3 l4 (by omega)) ?_;rintro _ rfl;(repeat refine eV ?_);refine aa (hK _ (wK [0,2,3,5,6,7,8,9,99] ?_));clear hK K;have dX:=And.intro dX (@hll);refine ab (dR fun K hK=>?_);(repeat refine eV ?_);have dK:=@hll;refine aa (hK _ (au [0,2,3,5,6,7,8,9,38,39,40,99] ?_));clear hK K;refine ac ?_;refine ax (X:=List Int × Nat) (fun y=>y.1.length = A4.ends.length ∧ y.2 ≤ A4.ends.length) (fun y=>[(40,.c (.p (.int .i64 y.2)))]) (fun y=>[((7,0),⟨none,[.sl true 3 1 (y.1.map iC)]⟩)]) (fun y=>A4.ends.length - y.2) (l4,0) ⟨hl4,Nat.zero_le _⟩ (by first | rfl | (simp only [ae,pZ,simprocAttr,Int.natCast_zero] <;> rfl)) ?_;rintro ⟨q,v⟩ ⟨hql,hv⟩;intro E hE;simp only [ae,pZ,simprocAttr] at hE;subst hE;dsimp only at hql hv ⊢;refine ab (dR fun K hK=>?_);(repeat refine eV ?_);refine aa (hK _ (wK [0,2,3,5,6,7,8,9,38,39,40,41,99] ?_));clear hK K;refine ab (dI (fun hb=>?_) (fun hb=>?_))
     ·have hv1:v < A4.ends.length:=by simpa using hb
      have hlv:=hlp.low v hv1;have hgv:=hlg v hv1;refine af ?_;show DW _ _ _ _ _;refine ab (ac ?_);have dX:=And.intro dX (And.intro @hll (And.intro @hgv @Int.toNat_natCast));refine ab (dR fun K hK=>?_);(repeat refine eV ?_);have dK:=@hgv;refine aa (hK _ (au [0,2,3,5,6,7,8,9,10,11,38,39,40,99] ?_));clear hK K;have dX:=And.intro dX (And.intro @hl4 (And.intro @hql @Int.toNat_natCast));refine dR fun K hK=>?_;(repeat refine eV ?_);have dK:=@lv;refine aa (hK _ (au [0,2,3,5,6,7,8,9,38,39,40,99] ?_));clear hK K;refine dR fun K hK=>?_;(repeat refine eV ?_);have dK:=@bj;refine aa (hK _ ?_);clear hK K;show ∃ x,_ ∧ _ ∧ Weak _ _;refine ⟨(q.set (nF l6 v) (gi l4 v),v + 1),?_,?_,ay [0,2,3,5,6,7,8,9,38,39,40,99]⟩
      ·exact ⟨by rw [List.length_set]; exact hql,hv1⟩
      ·dsimp only; omega
     ·refine an ?_;show ∃ x,_ ∧ Weak _ _;refine ⟨(rnN A4 (nF l6),N1,q,p6,s6),?_,((gf _ 6).trans (ce _ [0,2,3,5,6,7,99])).trans (Weak.of_eq (by simp only [ae,pZ,simprocAttr] <;> exact rfl))⟩;exact ⟨(Po hA4 hlp).mono (by omega) (by omega),hT1,by dsimp only; omega,by dsimp only; omega⟩
    ·refine af ?_;show ∃ x,_ ∧ Weak _ _;refine ⟨(A4,N1,l4,p5,s5),?_,((gf _ 6).trans (ce _ [0,2,3,5,6,7,99])).trans (Weak.of_eq (by simp only [ae,pZ,simprocAttr] <;> exact rfl))⟩;exact ⟨hA4.mono (by omega) (by omega),hT1,by dsimp only; omega,by dsimp only; omega⟩
 ·rintro ⟨A,B1,m,p2,s2⟩ ⟨hA,hTB,hml,hp2⟩;dsimp only at hA hTB hml hp2 ⊢;have hBl:=hTB.len;refine pn (X:=Net × Net × List Int × Nat × Int) (fun x=>Drawn 40 500 x.1 ∧ Tame x.2.1 ∧ x.2.2.1.length ≤ 64 ∧ x.2.2.2.1 ≤ B + 1152921504700000000 + 2 + 2 + 2) (fun x=>mkE 99 [(0,.ptr 99 0 [(0,0)] 0),(2,.box),(3,.box),(5,.box),(6,.box),(7,.own false 1),(99,.dead)] [((2,0),⟨some 31,[.p (.slice none 0 0),.p (.slice none 0 0),.p (.slice none 0 0)]⟩),((3,0),⟨some 31,[.p (.slice none 0 0),.p (.slice none 0 0),.p (.slice none 0 0)]⟩),((5,0),⟨some 31,[.sl false 95 1 (x.2.1.ends.map (esC 97)),.sl false 3 1 (x.2.1.ids.map iC),.sl false 3 1 (x.2.1.inputs.map iC)]⟩),((6,0),⟨some 31,[.sl false 95 1 (x.1.ends.map (esC 97)),.sl false 3 1 (x.1.ids.map iC),.sl false 3 1 (x.1.inputs.map iC)]⟩),((7,0),⟨none,[.sl true 3 1 (x.2.2.1.map iC)]⟩),((99,0),⟨some 69,[.sl false 5 1 (bs.map bC),.p (.int .i64 x.2.2.2.1),.p (.int .u64 x.2.2.2.2)]⟩)]) ?_ ?_
  ·refine ab (dR fun K hK=>?_);(repeat refine eV ?_);refine kg rfl ⟨rfl,_,rfl⟩ (by omega) (by first | exact tr) (tq bs p2 s2 8 (B + 1152921504700000000) hby hp2 (by omega)) ?_;rintro _ ⟨p3,s3,_,rfl,hp3,b3,rfl⟩;refine ioF ?_;(repeat refine eV ?_)
   cases b3 with
   | true =>
    (repeat refine eV ?_);refine aa (hK _ (wK [0,2,3,5,6,7,78,99] ?_));clear hK K;refine dI ?_ ?_<;>intro hb
    ·have hm0:0 < m.length:=by simpa using hb
     have dX:=And.intro dX (@coverSt24.eq_def);refine cm coverSt24 (fun j r=>match j with | 4=>CurO bs (B + 1152921504700000000 + 2 + 2) (fun rs=>∃ x,rs = [.c (.p (.int .i64 x))] ∧ n5 (m.length:Int) x) r | 10=>CurO bs (B + 1152921504700000000 + 2 + 2 + 2) (fun rs=>∃ x,rs = [.c (.p (.int .i64 x))] ∧ vl [-1,0,1,(B1.ends.length:Int)] x) r | _=>True) fun K hK=>?_;(repeat refine dV ?_);have dX:=And.intro dX (@coverSt24.eq_def);refine rx rfl ⟨rfl,_,rfl⟩ (by omega) (by first | exact fg | exact Ez) (ew bs p3 s3 (m.length:Int) (B + 1152921504700000000 + 2) hby (by omega) (by omega)) (CurO.ex ⟨_,0,rfl,tn _⟩) ?_;rintro _ ⟨p4,s4,_,rfl,hp4,x4,rfl,hx4⟩;refine po ?_;(repeat refine dV ?_);obtain ⟨y4,rfl⟩:=Int.eq_ofNat_of_zero_le hx4.1;have hy4:y4 < m.length:=by have:=hx4.2.2; omega
     have dX:=And.intro dX (@coverSt24.eq_def);refine rx rfl ⟨rfl,_,rfl⟩ (by omega) (by first | exact fg | exact Ez) (xl bs p4 s4 _ _ [-1,0,1,(B1.ends.length:Int)] (B + 1152921504700000000 + 2 + 2) hby (by omega) (by omega) (by simp) (by simp)) (CurO.ex ⟨_,_,rfl,0,by simp,rfl⟩) ?_;rintro _ ⟨p5,s5,_,rfl,hp5,x5,rfl,hx5⟩;refine po ?_;(repeat refine dV ?_);refine ak (hK _ ?_);clear hK K;show ∃ x,_ ∧ Weak _ _;refine ⟨(A,B1,m.set y4 x5,p5,s5),?_,(ce _ [0,2,3,5,6,7,99]).trans (Weak.of_eq (by simp only [ae,pZ,simprocAttr ,lv,Int.toNat_natCast] <;> exact rfl))⟩;exact ⟨hA,hTB,by rw [List.length_set]; exact hml,by dsimp only; omega⟩
    ·refine af ?_;show ∃ x,_ ∧ Weak _ _;refine ⟨(A,B1,m,p3,s3),?_,(ce _ [0,2,3,5,6,7,99]).trans (Weak.of_eq (by simp only [ae,pZ,simprocAttr] <;> exact rfl))⟩;exact ⟨hA,hTB,hml,by dsimp only; omega⟩
   | false =>
    (repeat refine eV ?_);refine aa (hK _ (wK [0,2,3,5,6,7,78,99] ?_));clear hK K;refine dI ?_ ?_<;>intro hb
    ·cases hb
    ·refine af ?_;show ∃ x,_ ∧ Weak _ _;refine ⟨(A,B1,m,p3,s3),?_,(ce _ [0,2,3,5,6,7,99]).trans (Weak.of_eq (by simp only [ae,pZ,simprocAttr] <;> exact rfl))⟩;exact ⟨hA,hTB,hml,by dsimp only; omega⟩
  ·rintro ⟨A,B1,m,p3,s3⟩ ⟨hA,hTB,hml,hp3⟩;dsimp only at hA hTB hml hp3 ⊢;refine pn (X:=Net × Net × List Int × Nat × Int) (fun x=>Tame x.1 ∧ Tame x.2.1 ∧ x.2.2.1.length ≤ 64 ∧ x.2.2.2.1 ≤ B + 1152921504700000000 + 2 + 2 + 2 + 2 + 16777216) (fun x=>mkE 99 [(0,.ptr 99 0 [(0,0)] 0),(2,.box),(3,.box),(5,.box),(6,.box),(7,.own false 1),(99,.dead)] [((2,0),⟨some 31,[.p (.slice none 0 0),.p (.slice none 0 0),.p (.slice none 0 0)]⟩),((3,0),⟨some 31,[.p (.slice none 0 0),.p (.slice none 0 0),.p (.slice none 0 0)]⟩),((5,0),⟨some 31,[.sl false 95 1 (x.2.1.ends.map (esC 97)),.sl false 3 1 (x.2.1.ids.map iC),.sl false 3 1 (x.2.1.inputs.map iC)]⟩),((6,0),⟨some 31,[.sl false 95 1 (x.1.ends.map (esC 97)),.sl false 3 1 (x.1.ids.map iC),.sl false 3 1 (x.1.inputs.map iC)]⟩),((7,0),⟨none,[.sl true 3 1 (x.2.2.1.map iC)]⟩),((99,0),⟨some 69,[.sl false 5 1 (bs.map bC),.p (.int .i64 x.2.2.2.1),.p (.int .u64 x.2.2.2.2)]⟩)]) ?_ ?_
   ·refine ab (dR fun K hK=>?_);(repeat refine eV ?_);refine kg rfl ⟨rfl,_,rfl⟩ (by omega) (by first | exact tr) (tq bs p3 s3 16 (B + 1152921504700000000 + 2 + 2 + 2) hby hp3 (by omega)) ?_;rintro _ ⟨p4,s4,_,rfl,hp4,b4,rfl⟩;refine ioF ?_;(repeat refine eV ?_);refine aa (hK _ (wK [0,2,3,5,6,7,92,99] ?_));clear hK K;refine dI ?_ ?_<;>intro hb
    ·refine dR fun K hK=>?_;(repeat refine eV ?_);refine qn rfl ⟨rfl,_,rfl⟩ (by omega) (by first | exact Yk) (I0 bs p4 s4 NFz A (B + 1152921504700000000 + 2 + 2 + 2 + 2) hby hp4 (by omega) hA) ?_;rintro _ ⟨p5,s5,_,rfl,hp5,A5,rfl,hA5⟩;refine ioF ?_;(repeat refine eV ?_);refine aa (hK _ ?_);clear hK K;show ∃ x,_ ∧ Weak _ _;refine ⟨(A5,B1,m,p5,s5),?_,((gf _ 6).trans (ce _ [0,2,3,5,6,7,99])).trans (Weak.of_eq (by simp only [ae,pZ,simprocAttr ,netO] <;> exact rfl))⟩;exact ⟨hA5,hTB,hml,by dsimp only; omega⟩
    ·refine af ?_;show ∃ x,_ ∧ Weak _ _;refine ⟨(A,B1,m,p4,s4),?_,(ce _ [0,2,3,5,6,7,99]).trans (Weak.of_eq (by simp only [ae,pZ,simprocAttr] <;> exact rfl))⟩;exact ⟨hA.tame (by omega) (by omega),hTB,hml,by dsimp only; omega⟩
   ·rintro ⟨A,B1,m,p4,s4⟩ ⟨hA,hTB,hml,hp4⟩;dsimp only at hA hTB hml hp4 ⊢;have dX:=And.intro dX (@coverSt27.eq_def);refine ab (cm coverSt27 (fun j r=>match j with | _=>True) fun K hK=>?_);(repeat refine dV ?_);refine ak (hK _ (wK [2,3,4,99] ?_));clear hK K;exact ai (b6 Tryz.results78 Tryz.ntmps78 (.three (.cell 2 _ _ _ _ rfl rfl aq rfl rfl rfl) (.cell 3 _ _ _ _ rfl rfl aq rfl rfl rfl) (.re _ _ (.own _ _ _ _ rfl rfl (own1 (cq _ _))))) (by decide) (by decide) rfl rfl rfl ⟨p4,s4,_,rfl,by omega,A,B1,m,rfl,hA,hTB,hml⟩)
end
end Go.Proofs.YtfknckinfcicbaaGreat

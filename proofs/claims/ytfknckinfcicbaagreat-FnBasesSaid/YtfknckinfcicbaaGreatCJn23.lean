/- Parts of the proof. -/
import Derived.Test.YtfknckinfcicbaaGreatCJn19
import Derived.Test.YtfknckinfcicbaaGreatCDt
import Derived.Test.YtfknckinfcicbaaGreatCJn9
import Derived.Test.YtfknckinfcicbaaGreatCDcv
import Derived.Test.YtfknckinfcicbaaGreatCJn21
set_option linter.unusedSimpArgs false
set_option linter.unusedVariables false
namespace Go.Proofs.YtfknckinfcicbaaGreat
section
open Go Go.RowKit
def wkL (N:Net) (cls:List Int) (v:Nat):List Int:=en N (if cls = [] then none else some cls) v
theorem vv {N:Net} {cls:List Int} {u v:Nat}:wkL N cls u = wkL N cls v ↔ (gl N.ends u).length = (gl N.ends v).length ∧ gi N.inputs u = gi N.inputs v ∧
 (cls ≠ [] → ∀ i,i < (gl N.ends u).length → (gp (gl N.ends u) i).2 = (gp (gl N.ends v) i).2 ∧ gi cls (gp (gl N.ends u) i).1.toNat = gi cls (gp (gl N.ends v) i).1.toNat):=by
 unfold wkL
 by_cases h:cls = []
 ·rw [if_pos h,lf]; simp [h]
 ·rw [if_neg h,fk]; simp [h]
structure Fair (N:Net):Prop where
 sym:Sym N.ends
 deg:∀ v,v < N.ends.length → dg N.ends v ≤ 1000
theorem Fine.fair {N:Net} (h:Fine N):Fair N:=⟨h.sym,fun v hv=>by have:=h.deg v hv; omega⟩
theorem Fair.node {N:Net} (h:Fair N) {v i:Nat} (hv:v < N.ends.length) (hi:i < (gl N.ends v).length):0 ≤ (gp (gl N.ends v) i).1 ∧ (gp (gl N.ends v) i).1 < (N.ends.length:Int):=by
 obtain ⟨q,j,h1,h2,-,-⟩:=h.sym v i hv hi;have h1:gp (gl N.ends v) i = ((q:Int),(j:Int)):=h1;rw [h1];exact ⟨Int.natCast_nonneg _,Int.ofNat_lt.2 h2⟩
def viAlikeSt1:Nat → Stat
 | 0=>⟨[4],[(4,1)],[],[12],[],[]⟩
 | 1=>⟨[12],[(4,1)],[],[13],[],[]⟩
 | 2=>⟨[2],[],[],[14],[],[]⟩
 | 3=>⟨[13,14],[],[],[15],[],[]⟩
 | 4=>⟨[15],[],[],[16],[],[]⟩
 | 5=>⟨[16],[],[],[17],[],[]⟩
 | 6=>⟨[4],[(4,1)],[],[18],[],[]⟩
 | 7=>⟨[18],[(4,1)],[],[19],[],[]⟩
 | 8=>⟨[3],[],[],[20],[],[]⟩
 | 9=>⟨[19,20],[],[],[21],[],[]⟩
 | 10=>⟨[21],[],[],[22],[],[]⟩
 | 11=>⟨[22],[],[],[23],[],[]⟩
 | 12=>⟨[17,23],[],[],[24],[],[]⟩
 | 13=>⟨[24],[],[],[25],[],[]⟩
 | 14=>⟨[4,25],[(4,1)],[],[26],[],[]⟩
 | 15=>⟨[26,25],[(4,1)],[],[27],[],[]⟩
 | 16=>⟨[2,25],[],[],[28],[],[]⟩
 | 17=>⟨[27,28,25],[],[],[29],[],[]⟩
 | 18=>⟨[29,25],[],[],[30],[],[]⟩
 | 19=>⟨[4,25],[(4,1)],[],[31],[],[]⟩
 | 20=>⟨[31,25],[(4,1)],[],[32],[],[]⟩
 | 21=>⟨[3,25],[],[],[33],[],[]⟩
 | 22=>⟨[32,33,25],[],[],[34],[],[]⟩
 | 23=>⟨[34,25],[],[],[35],[],[]⟩
 | 24=>⟨[30,35,25],[],[],[36],[],[]⟩
 | 25=>⟨[25,36],[],[],[37],[],[]⟩
 | _=>⟨[],[],[],[],[],[]⟩
def viAlikeSt7:Nat → Stat
 | 0=>⟨[1],[],[],[57],[],[]⟩
 | 1=>⟨[57],[],[],[58],[],[]⟩
 | 2=>⟨[58],[],[],[59],[],[]⟩
 | 3=>⟨[59],[],[],[60],[],[]⟩
 | 4=>⟨[10,60],[(10,1)],[],[61],[],[]⟩
 | 5=>⟨[61,60],[(10,1)],[],[62],[],[]⟩
 | 6=>⟨[11,60],[(11,1)],[],[63],[],[]⟩
 | 7=>⟨[63,60],[(11,1)],[],[64],[],[]⟩
 | 8=>⟨[62,64,60],[],[],[65],[],[]⟩
 | 9=>⟨[65,60],[],[],[66],[],[]⟩
 | 10=>⟨[1,66],[],[],[67],[],[]⟩
 | 11=>⟨[10,66],[(10,1)],[],[68],[],[]⟩
 | 12=>⟨[68,66],[(10,1)],[],[69],[],[]⟩
 | 13=>⟨[67,69,66],[],[],[70],[],[]⟩
 | 14=>⟨[70,66],[],[],[71],[],[]⟩
 | 15=>⟨[1,66],[],[],[72],[],[]⟩
 | 16=>⟨[11,66],[(11,1)],[],[73],[],[]⟩
 | 17=>⟨[73,66],[(11,1)],[],[74],[],[]⟩
 | 18=>⟨[72,74,66],[],[],[75],[],[]⟩
 | 19=>⟨[75,66],[],[],[76],[],[]⟩
 | 20=>⟨[71,76,66],[],[],[77],[],[]⟩
 | 21=>⟨[66,77,60],[],[],[78],[],[]⟩
 | 22=>⟨[60,78],[],[],[79],[],[]⟩
 | _=>⟨[],[],[],[],[],[]⟩
def zBVw11:=PLift.up (And.intro aq (And.intro bn (And.intro b7 (And.intro @if_pos.{1} (And.intro cd (And.intro bb (And.intro ch (And.intro @cf (And.intro @cx (And.intro @cw (And.intro @bo (And.intro @List.take_succ_cons.{0} (And.intro @List.take_zero.{0} @trivial)))))))))))))
theorem jae:type_of% zBVw11.down:=zBVw11.down
set_option maxRecDepth 8000 in
set_option maxHeartbeats 0 in
theorem Pc (f:NF) (o:Bool) (tt:TypeId) (N:Net) (cls:List Int) (u v:Nat) (hf:Fair N) (hin:N.inputs.length = N.ends.length) (hc:cls = [] ∨ cls.length = N.ends.length) (hu:u < N.ends.length) (hv:v < N.ends.length):DCalls Tryz.prog 137 [.agg (be f N),.c (ints o tt cls),.c (.p (.int .i64 u)),.c (.p (.int .i64 v))] (fun r=>r = [.c (.p (.bool (decide (wkL N cls u = wkL N cls v))))]):=by
 refine aw Tryz.func137 rfl (by rw [Tryz.ntmps137]; simp) fun w0=>?_;rw [Tryz.ntmps137];have dX:=jae;simp only [bw,bf,Arg.av,be,b9,ints,ends];have hdu:=hf.deg u hu;have hdv:=hf.deg v hv;unfold dg at hdu hdv;refine ab (dR fun K hK=>?_);(repeat refine eV ?_);refine aa (hK _ (wK [1,2,3,4] ?_));clear hK K;refine ab ?_;obtain h1 | h1:=Bool.eq_false_or_eq_true (((gl N.ends u).length:Int) != ((gl N.ends v).length:Int))
 ·have dX:=And.intro dX (And.intro @viAlikeSt1.eq_def @h1);refine ab (cm viAlikeSt1 (fun j r=>match j with | _=>True) fun K hK=>?_);(repeat refine dV ?_);refine ak (hK _ (wK [1,2,3,4,37] ?_));clear hK K;refine dI ?_ ?_<;>intro hb
  ·refine ab (dR fun K hK=>?_);(repeat refine eV ?_);refine aa (hK _ (wK [8] ?_));clear hK K;exact ai (am Tryz.results137 (.one (.plain _ _ rfl)) (by decide) (by rw [decide_eq_false (fun h=>by have:=(vv.1 h).1; simp at h1; omega)]))
  ·cases hb
 ·obtain h2 | h2:=Bool.eq_false_or_eq_true (gi N.inputs u != gi N.inputs v)
  ·have dX:=And.intro dX (And.intro @viAlikeSt1.eq_def (And.intro @h1 @h2));refine ab (cm viAlikeSt1 (fun j r=>match j with | _=>True) fun K hK=>?_);(repeat refine dV ?_);refine ak (hK _ (wK [1,2,3,4,37] ?_));clear hK K;refine dI ?_ ?_<;>intro hb
   ·refine ab (dR fun K hK=>?_);(repeat refine eV ?_);refine aa (hK _ (wK [8] ?_));clear hK K;exact ai (am Tryz.results137 (.one (.plain _ _ rfl)) (by decide) (by rw [decide_eq_false (fun h=>by have:=(vv.1 h).2.1; simp at h2; exact h2 this)]))
   ·cases hb
  ·have dX:=And.intro dX (And.intro @viAlikeSt1.eq_def (And.intro @h1 @h2));refine ab (cm viAlikeSt1 (fun j r=>match j with | _=>True) fun K hK=>?_);(repeat refine dV ?_);refine ak (hK _ (wK [1,2,3,4,37] ?_));clear hK K;refine dI ?_ ?_<;>intro hb
   ·cases hb
   ·refine af ?_;show DW _ _ _ _ _;refine ab ?_;refine ab (dR fun K hK=>?_);(repeat refine eV ?_);refine aa (hK _ (wK [1,3,4,42,43,44] ?_));clear hK K;refine ac ?_;have hl:(gl N.ends u).length = (gl N.ends v).length:=by simp at h1; omega
    have hi:gi N.inputs u = gi N.inputs v:=by simpa using h2
    refine ax (X:=Nat) (fun i=>i ≤ (gl N.ends u).length ∧ (cls ≠ [] → ∀ j,j < i → (gp (gl N.ends u) j).2 = (gp (gl N.ends v) j).2 ∧ gi cls (gp (gl N.ends u) j).1.toNat = gi cls (gp (gl N.ends v) j).1.toNat)) (fun i=>[(44,.c (.p (.int .i64 i)))]) (fun i=>[]) (fun i=>(gl N.ends u).length - i) 0 ⟨Nat.zero_le _,fun _ j hj=>absurd hj (by omega)⟩ (by first | rfl | (simp only [ae,pZ,simprocAttr,Int.natCast_zero] <;> rfl)) ?_;rintro i ⟨hi0,hprev⟩;intro E hE;simp only [ae,pZ,simprocAttr] at hE;subst hE;refine ab (dR fun K hK=>?_);(repeat refine eV ?_);refine aa (hK _ (wK [1,3,4,42,43,44,45] ?_));clear hK K;refine ab (dI (fun hb=>?_) (fun hb=>?_))
    ·refine af ?_;show DW _ _ _ _ _;have hi1:i < (gl N.ends u).length:=by simpa using hb
     have hiv:i < (gl N.ends v).length:=by omega
     have hnu:=hf.node hu hi1;have hnv:=hf.node hv hiv;refine ab (ac ?_);refine ab (dR fun K hK=>?_);(repeat refine eV ?_);refine aa (hK _ (wK [1,3,4,9,10,42,43,44] ?_));clear hK K;refine ab (dR fun K hK=>?_);(repeat refine eV ?_);refine aa (hK _ (wK [1,3,4,10,11,42,43,44] ?_));clear hK K;obtain h3 | h3:=Bool.eq_false_or_eq_true (decide ((cls.length:Int) > 0))
     ·have hcl:cls ≠ []:=fun h=>by rw [h] at h3; simp at h3
      have hcn:cls.length = N.ends.length:=hc.resolve_left hcl;obtain h4 | h4:=Bool.eq_false_or_eq_true ((gp (gl N.ends u) i).2 != (gp (gl N.ends v) i).2)
      ·have dX:=And.intro dX (And.intro @viAlikeSt7.eq_def (And.intro @h3 @h4));refine ab (cm viAlikeSt7 (fun j r=>match j with | _=>True) fun K hK=>?_);(repeat refine dV ?_);refine ak (hK _ (wK [1,3,4,42,43,44,79] ?_));clear hK K;refine dI ?_ ?_<;>intro hb
       ·refine ab (dR fun K hK=>?_);(repeat refine eV ?_);refine aa (hK _ (wK [8] ?_));clear hK K;exact ai (am Tryz.results137 (.one (.plain _ _ rfl)) (by decide) (by rw [decide_eq_false (fun h=>by have:=((vv.1 h).2.2 hcl i hi1).1; simp at h4; exact h4 this)]))
       ·cases hb
      ·obtain h5 | h5:=Bool.eq_false_or_eq_true (gi cls (gp (gl N.ends u) i).1.toNat != gi cls (gp (gl N.ends v) i).1.toNat)
       ·have dX:=And.intro dX (And.intro @viAlikeSt7.eq_def (And.intro @h3 (And.intro @h4 @h5)));refine ab (cm viAlikeSt7 (fun j r=>match j with | _=>True) fun K hK=>?_);(repeat refine dV ?_);refine ak (hK _ (wK [1,3,4,42,43,44,79] ?_));clear hK K;refine dI ?_ ?_<;>intro hb
        ·refine ab (dR fun K hK=>?_);(repeat refine eV ?_);refine aa (hK _ (wK [8] ?_));clear hK K;exact ai (am Tryz.results137 (.one (.plain _ _ rfl)) (by decide) (by rw [decide_eq_false (fun h=>by have:=((vv.1 h).2.2 hcl i hi1).2; simp at h5; exact h5 this)]))
        ·cases hb
       ·have dX:=And.intro dX (And.intro @viAlikeSt7.eq_def (And.intro @h3 (And.intro @h4 @h5)));refine ab (cm viAlikeSt7 (fun j r=>match j with | _=>True) fun K hK=>?_);(repeat refine dV ?_);refine ak (hK _ (wK [1,3,4,42,43,44,79] ?_));clear hK K;refine dI ?_ ?_<;>intro hb
        ·cases hb
        ·refine af ?_;show DW _ _ _ _ _;refine dR fun K hK=>?_;(repeat refine eV ?_);have dK:=@bj;refine aa (hK _ ?_);clear hK K;show ∃ x,_ ∧ _ ∧ Weak _ _;refine ⟨i + 1,?_,?_,ay [1,3,4,42,43,44]⟩
         ·refine ⟨hi1,fun _ j hj=>?_⟩
          by_cases hji:j = i
          ·subst hji; exact ⟨by simpa using h4,by simpa using h5⟩
          ·exact hprev hcl j (by omega)
         ·omega
     ·have hcl:cls = []:=by simp at h3; simpa using h3
      have dX:=And.intro dX (And.intro @viAlikeSt7.eq_def @h3);refine ab (cm viAlikeSt7 (fun j r=>match j with | _=>True) fun K hK=>?_);(repeat refine dV ?_);refine ak (hK _ (wK [1,3,4,42,43,44,79] ?_));clear hK K;refine dI ?_ ?_<;>intro hb
      ·cases hb
      ·refine af ?_;show DW _ _ _ _ _;refine dR fun K hK=>?_;(repeat refine eV ?_);have dK:=@bj;refine aa (hK _ ?_);clear hK K;show ∃ x,_ ∧ _ ∧ Weak _ _;refine ⟨i + 1,?_,?_,ay [1,3,4,42,43,44]⟩
       ·exact ⟨hi1,fun h=>absurd hcl h⟩
       ·omega
    ·have hi2:i = (gl N.ends u).length:=by
      have:¬ i < (gl N.ends u).length:=by simpa using hb
      omega
     refine an ?_;refine wK [1] ?_;refine ab (dR fun K hK=>?_);(repeat refine eV ?_);refine aa (hK _ (wK [8] ?_));clear hK K;exact ai (am Tryz.results137 (.one (.plain _ _ rfl)) (by decide) (by rw [decide_eq_true (vv.2 ⟨hl,hi,fun h=>by rw [← hi2]; exact hprev h⟩)]))
end
section
set_option maxHeartbeats 0
set_option maxRecDepth 8000
open Go Go.RowKit
def Ag (n:Nat) (b:Nat → Bool):Int:=match (List.range n).find? b with
 | some i=>i
 | none=>-1
theorem Fb {n i:Nat} {b:Nat → Bool} (hi:i < n) (hb:b i = true) (hn:∀ j,j < i → b j = false):Ag n b = i:=by
 unfold Ag
 have:(List.range n).find? b = some i:=by
  rw [List.find?_range_eq_some];exact ⟨hb,by simpa using hi,fun j hj=>by simp [hn j hj]⟩
 rw [this]
theorem Fc {n:Nat} {b:Nat → Bool} (hn:∀ j,j < n → b j = false):Ag n b = -1:=by
 unfold Ag
 have:(List.range n).find? b = none:=by
  rw [List.find?_eq_none];exact fun j hj=>by simp [hn j (by simpa using hj)]
 rw [this]
def zBDfn1:=PLift.up (And.intro bb (And.intro ch (And.intro @if_pos.{1} (And.intro @cf (And.intro @bo (And.intro @Int.toNat_natCast @trivial))))))
theorem G5:type_of% zBDfn1.down:=zBDfn1.down
theorem Kd (o:Bool) (t:TypeId) (xs:List Int) (g:FuncId) (css:List (List C)) (b:Nat → Bool) (hl:xs.length ≤ 1000000) (hm:ap Tryz.prog g = true) (hg:∀ j,j < xs.length → DCalls Tryz.prog g ([.c (.p (.int .i64 (gi xs j)))] ++ css.map .rp) (fun r=>r = [.c (.p (.bool (b j)))])):DCalls Tryz.prog 141 [.c (.sl o t 1 (xs.map iC)),.fn g css] (fun r=>r = [.c (.p (.int .i64 (Ag xs.length b)))]):=by
 refine aw Tryz.func141 rfl (by rw [Tryz.ntmps141]; simp) fun w0=>?_;rw [Tryz.ntmps141];have dX:=G5;simp only [bw,bf,Arg.av,be,b9,ints,ends];refine ab (dR fun K hK=>?_);(repeat refine eV ?_);refine aa (hK _ (wK [0,1] ?_));clear hK K;refine ab ?_;refine ab (dR fun K hK=>?_);(repeat refine eV ?_);refine aa (hK _ (wK [0,1,7,8] ?_));clear hK K;refine ac ?_;refine ax (X:=Nat) (fun k=>k ≤ xs.length ∧ ∀ j,j < k → b j = false) (fun k=>[(8,.c (.p (.int .i64 k)))]) (fun k=>[]) (fun k=>xs.length - k) 0 ⟨Nat.zero_le _,fun j hj=>by simp at hj⟩ (by first | rfl | (simp only [ae,pZ,simprocAttr,Int.natCast_zero] <;> rfl)) ?_;rintro k ⟨hk,hne⟩;intro E hE;simp only [ae,pZ,simprocAttr] at hE;subst hE;refine ab (dR fun K hK=>?_);(repeat refine eV ?_);refine aa (hK _ (wK [0,1,7,8,9] ?_));clear hK K;refine ab (dI (fun hb=>?_) (fun hb=>?_))
 ·have hkl:k < xs.length:=by simpa using hb
  refine af ?_;show DW _ _ _ _ _;refine ab (ac ?_);refine ab (dR fun K hK=>?_);(repeat refine eV ?_);refine aa (hK _ (wK [0,1,5,7,8] ?_));clear hK K;refine ab (dR fun K hK=>?_);(repeat refine eV ?_);refine zz rfl ⟨rfl,_,rfl⟩ (by omega) (by simp (disch:=first | omega | (intros; contradiction)) only [ae,bu,pZ,simprocAttr,bb,ch,if_pos,cf,bo,Int.toNat_natCast] <;> exact rfl) (by first | assumption) (by simp (disch:=first | omega | (intros; contradiction)) only [ae,bu,pZ,simprocAttr,bb,ch,if_pos,cf,bo,Int.toNat_natCast] <;> exact rfl) (hg k hkl) ?_;rintro _ rfl;(repeat refine eV ?_);refine aa (hK _ (wK [0,1,5,7,8,16] ?_));clear hK K;refine dI ?_ ?_<;>intro hb
  ·have hi:Ag xs.length b = k:=Fb hkl hb hne;refine ab (dR fun K hK=>?_);(repeat refine eV ?_);refine aa (hK _ (wK [4] ?_));clear hK K;exact ai (am Tryz.results141 (.one (.plain _ _ rfl)) (by decide) (by rw [hi]))
  ·refine af ?_;show DW _ _ _ _ _;refine dR fun K hK=>?_;(repeat refine eV ?_);have dK:=@bj;refine aa (hK _ ?_);clear hK K;show ∃ x,_ ∧ _ ∧ Weak _ _;refine ⟨k + 1,?_,?_,ay [0,1,7,8]⟩
   ·refine ⟨hkl,fun j hj=>?_⟩
    rcases Nat.lt_or_ge j k with h | h
    ·exact hne j h
    ·obtain rfl:j = k:=by omega
     exact hb
   ·omega
 ·have hkl:k = xs.length:=by
   have:¬ (k:Int) < (xs.length:Int):=by simpa using hb
   omega
  subst hkl;have hi:Ag xs.length b = -1:=Fc hne;refine an ?_;refine wK [] ?_;refine ab (dR fun K hK=>?_);(repeat refine eV ?_);refine aa (hK _ (wK [4] ?_));clear hK K;exact ai (am Tryz.results141 (.one (.plain _ _ rfl)) (by decide) (by rw [hi]))
def qp (n:Nat) (b:Nat → Bool):Bool:=(List.range n).any b
theorem Oo (n:Nat) (b:Nat → Bool):decide ((0:Int) ≤ Ag n b) = qp n b:=by
 unfold Ag qp
 cases h:(List.range n).find? b with
 | none =>
  have:(List.range n).any b = false:=by
   rw [List.any_eq_false];intro x hx;exact List.find?_eq_none.1 h x hx
  rw [this]; rfl
 | some i =>
  have:(List.range n).any b = true:=List.any_eq_true.2 ⟨i,List.mem_of_find?_eq_some h,List.find?_some h⟩;rw [this]; simp
theorem Dr (o:Bool) (t:TypeId) (xs:List Int) (g:FuncId) (css:List (List C)) (b:Nat → Bool) (hl:xs.length ≤ 1000000) (hm:ap Tryz.prog g = true) (hg:∀ j,j < xs.length → DCalls Tryz.prog g ([.c (.p (.int .i64 (gi xs j)))] ++ css.map .rp) (fun r=>r = [.c (.p (.bool (b j)))])):DCalls Tryz.prog 108 [.c (.sl o t 1 (xs.map iC)),.fn g css] (fun r=>r = [.c (.p (.bool (qp xs.length b)))]):=by
 refine aw Tryz.func108 rfl (by rw [Tryz.ntmps108]; simp) fun w0=>?_;rw [Tryz.ntmps108];have dX:=G5;simp only [bw,bf,Arg.av,be,b9,ints,ends];refine ab (dR fun K hK=>?_);(repeat refine eV ?_);refine aa (hK _ (wK [0,1] ?_));clear hK K;refine ab (dR fun K hK=>?_)
 repeat (apply cr; (focus exact rfl); (focus (simp (disch:=first | omega | (intros; contradiction)) only [ae,bu,pZ,simprocAttr,bb,ch,if_pos,cf,bo,Int.toNat_natCast ,Gl]; exact rfl)))
 refine fb rfl ⟨rfl,_,rfl⟩ (by omega) (by first | exact Gl) (by simp (disch:=first | omega | (intros; contradiction)) only [ae,bu,pZ,simprocAttr,bb,ch,if_pos,cf,bo,Int.toNat_natCast ,Gl] <;> exact rfl) (Kd o t xs g css b hl hm hg) ?_;rintro _ rfl
 repeat (apply cr; (focus exact rfl); (focus (simp (disch:=first | omega | (intros; contradiction)) only [ae,bu,pZ,simprocAttr,bb,ch,if_pos,cf,bo,Int.toNat_natCast ,Gl]; exact rfl)))
 refine aa (hK _ (wK [4] ?_));clear hK K;exact ai (am Tryz.results108 (.one (.plain _ _ rfl)) (by decide) (by rw [← Oo]))
theorem Vp (xs:List Int) (p:Int → Bool):(!(qp xs.length fun j=>!(p (gi xs j)))) = xs.all p:=by
 rw [qp,← List.not_all_eq_any_not,Bool.not_not,Bool.eq_iff_iff,List.all_eq_true,List.all_eq_true];constructor
 ·intro h x hx;obtain ⟨i,hi,rfl⟩:=List.getElem_of_mem hx;have:=h i (by simpa using hi);rwa [bt hi] at this
 ·intro h j hj;have hj:j < xs.length:=by simpa using hj
  rw [bt hj];exact h _ (List.getElem_mem hj)
theorem R1 (n lo hi:Int):DCalls Tryz.prog 47 [.c (.p (.int .i64 n)),.c (.p (.int .i64 lo)),.c (.p (.int .i64 hi))] (fun r=>r = [.c (.p (.bool (inB n lo hi)))]):=ot fun w vs h1 h2=>by
 obtain ⟨u,v,t,rfl,g1,g2,g3⟩:=Yt h1 h2;rw [J9 g1,J9 g2,J9 g3];exact (d8 n lo hi w).mono fun _ _ h=>RetQ.v h
theorem Hi (n lo hi:Int):DCalls Tryz.prog 112 [.c (.p (.int .i64 n)),.rp [.p (.int .i64 lo)],.rp [.p (.int .i64 hi)]] (fun r=>r = [.c (.p (.bool !(inB n lo hi)))]):=by
 refine aw Tryz.func112 rfl (by rw [Tryz.ntmps112]; simp) fun w0=>?_;rw [Tryz.ntmps112];have dX:=G5;simp only [bw,bf,Arg.av,be,b9,ints,ends];refine ab (dR fun K hK=>?_);(repeat refine eV ?_);refine aa (hK _ (wK [0,1,2] ?_));clear hK K;refine ab (dR fun K hK=>?_);(repeat refine eV ?_);refine cL rfl ⟨rfl,_,rfl⟩ (by omega) (by first | exact jcl) (R1 n lo hi) ?_;rintro _ rfl;(repeat refine eV ?_);refine aa (hK _ (wK [4] ?_));clear hK K;exact ai (am Tryz.results112 (.one (.plain _ _ rfl)) (by decide) rfl)
theorem my (o:Bool) (t:TypeId) (xs:List Int) (lo hi:Int) (hl:xs.length ≤ 1000000):DCalls Tryz.prog 69 [.c (.sl o t 1 (xs.map iC)),.c (.p (.int .i64 lo)),.c (.p (.int .i64 hi))] (fun r=>r = [.c (.p (.bool (xs.all fun n=>inB n lo hi)))]):=by
 refine aw Tryz.func69 rfl (by rw [Tryz.ntmps69]; simp) fun w0=>?_;rw [Tryz.ntmps69];have dX:=G5;simp only [bw,bf,Arg.av,be,b9,ints,ends];refine ab (dR fun K hK=>?_);(repeat refine eV ?_);refine aa (hK _ (wK [0,4,5] ?_));clear hK K;refine ab (dR fun K hK=>?_)
 repeat (apply cr; (focus exact rfl); (focus (simp (disch:=first | omega | (intros; contradiction)) only [ae,bu,pZ,simprocAttr,bb,ch,if_pos,cf,bo,Int.toNat_natCast ,Gn]; exact rfl)))
 refine fb rfl ⟨rfl,_,rfl⟩ (by omega) (by first | exact Gn) (by simp (disch:=first | omega | (intros; contradiction)) only [ae,bu,pZ,simprocAttr,bb,ch,if_pos,cf,bo,Int.toNat_natCast ,Gn] <;> exact rfl) (Dr o t xs 112 [[.p (.int .i64 lo)],[.p (.int .i64 hi)]] (fun j=>!(inB (gi xs j) lo hi)) hl (by exact Zz) fun j hj=>Hi _ lo hi) ?_;rintro _ rfl
 repeat (apply cr; (focus exact rfl); (focus (simp (disch:=first | omega | (intros; contradiction)) only [ae,bu,pZ,simprocAttr,bb,ch,if_pos,cf,bo,Int.toNat_natCast ,Gn]; exact rfl)))
 refine aa (hK _ (wK [6] ?_));clear hK K;exact ai (am Tryz.results69 (.one (.plain _ _ rfl)) (by decide) (congrArg (fun b=>[RV.c (C.p (.bool b))]) (Vp xs fun n=>inB n lo hi)))
end
section
open Go Go.RowKit
def Br (xs ys:List Int):Bool:=decide (xs = ys)
theorem ud (xs:List Int):Br xs xs = true:=decide_eq_true rfl
theorem Sq {xs ys:List Int} (hl:xs.length = ys.length) (h:∀ j,j < xs.length → gi xs j = gi ys j):Br xs ys = true:=by
 refine decide_eq_true (List.ext_getElem hl fun i h1 h2=>?_);have:=h i h1;rwa [bt h1,bt h2] at this
def sameIntsSt6:Nat → Stat
 | 0=>⟨[0],[],[],[16],[],[]⟩
 | 1=>⟨[5],[],[],[17],[],[]⟩
 | 2=>⟨[16,17],[],[],[18],[],[]⟩
 | 3=>⟨[18],[],[],[19],[],[]⟩
 | 4=>⟨[1],[],[],[20],[],[]⟩
 | 5=>⟨[5],[],[],[21],[],[]⟩
 | 6=>⟨[20,21],[],[],[22],[],[]⟩
 | 7=>⟨[22],[],[],[23],[],[]⟩
 | 8=>⟨[19,23],[],[],[24],[],[]⟩
 | _=>⟨[],[],[],[],[],[]⟩
def zBDsm1:=PLift.up (And.intro bb (And.intro ch (And.intro @if_pos.{1} (And.intro @bo @trivial))))
theorem jao:type_of% zBDsm1.down:=zBDsm1.down
set_option maxRecDepth 8000 in
set_option maxHeartbeats 0 in
theorem ue (o:Bool) (t:TypeId) (xs:List Int) (o2:Bool) (t2:TypeId) (ys:List Int) (hxl:xs.length ≤ 1000000) (hyl:ys.length ≤ 1000000):DCalls Tryz.prog 11 [.c (.sl o t 1 (xs.map iC)),.c (.sl o2 t2 1 (ys.map iC))] (fun q=>q = [.c (.p (.bool (Br xs ys)))]):=by
 refine aw Tryz.func11 rfl (by rw [Tryz.ntmps11]; simp) fun w0=>?_;rw [Tryz.ntmps11];have dX:=jao;simp only [bw,bf,Arg.av,be,b9,ints,ends];refine ab (dR fun K hK=>?_);(repeat refine eV ?_);refine aa (hK _ (wK [0,1] ?_));clear hK K;refine ab ?_;refine ab (dR fun K hK=>?_);(repeat refine eV ?_);refine aa (hK _ (wK [0,1,10] ?_));clear hK K;refine dI ?_ ?_<;>intro hb
 ·have hne:Br xs ys = false:=decide_eq_false fun e=>by subst e; simp at hb
  refine ab (dR fun K hK=>?_);(repeat refine eV ?_);refine aa (hK _ (wK [4] ?_));clear hK K;exact ai (am Tryz.results11 (.one (.plain _ _ rfl)) (by decide) (by rw [hne]))
 ·have hl:xs.length = ys.length:=by simp at hb; omega
  refine af ?_;show DW _ _ _ _ _;refine ab ?_;refine ab (dR fun K hK=>?_);(repeat refine eV ?_);refine aa (hK _ (wK [0,1,12,13] ?_));clear hK K;refine ac ?_;refine ax (X:=Nat) (fun k=>k ≤ xs.length ∧ ∀ j,j < k → gi xs j = gi ys j) (fun k=>[(13,.c (.p (.int .i64 k)))]) (fun k=>[]) (fun k=>xs.length - k) 0 ⟨Nat.zero_le _,fun j hj=>by simp at hj⟩ (by first | rfl | (simp only [ae,pZ,simprocAttr,Int.natCast_zero] <;> rfl)) ?_;rintro k ⟨hk,hs⟩;intro E hE;simp only [ae,pZ,simprocAttr] at hE;subst hE;refine ab (dR fun K hK=>?_);(repeat refine eV ?_);refine aa (hK _ (wK [0,1,12,13,14] ?_));clear hK K;refine ab (dI (fun hb=>?_) (fun hb=>?_))
  ·have hkl:k < xs.length:=by simpa using hb
   have hkl2:k < ys.length:=by omega
   refine af ?_;show DW _ _ _ _ _;refine ab (ac ?_);refine ab (dR fun K hK=>?_);(repeat refine eV ?_);refine aa (hK _ (wK [0,1,5,12,13] ?_));clear hK K;have dX:=And.intro dX (@sameIntsSt6.eq_def);refine ab (cm sameIntsSt6 (fun j r=>True) fun K hK=>?_);(repeat refine dV ?_);refine ak (hK _ (wK [0,1,12,13,24] ?_));clear hK K;refine dI ?_ ?_<;>intro hb
   ·have hne:Br xs ys = false:=decide_eq_false fun e=>by subst e; simp at hb
    refine ab (dR fun K hK=>?_);(repeat refine eV ?_);refine aa (hK _ (wK [4] ?_));clear hK K;exact ai (am Tryz.results11 (.one (.plain _ _ rfl)) (by decide) (by rw [hne]))
   ·have he:gi xs k = gi ys k:=by simpa using hb
    refine af ?_;show DW _ _ _ _ _;refine dR fun K hK=>?_;(repeat refine eV ?_);have dK:=@bj;refine aa (hK _ ?_);clear hK K;show ∃ x,_ ∧ _ ∧ Weak _ _;refine ⟨k + 1,?_,?_,ay [0,1,12,13]⟩
    ·refine ⟨hkl,fun j hj=>?_⟩
     rcases Nat.lt_or_ge j k with h | h
     ·exact hs j h
     ·obtain rfl:j = k:=by omega
      exact he
    ·omega
  ·have hkl:k = xs.length:=by
    have:¬ (k:Int) < (xs.length:Int):=by simpa using hb
    omega
   subst hkl;have hne:Br xs ys = true:=Sq hl hs;refine an ?_;refine wK [] ?_;refine ab (dR fun K hK=>?_);(repeat refine eV ?_);refine aa (hK _ (wK [4] ?_));clear hK K;exact ai (am Tryz.results11 (.one (.plain _ _ rfl)) (by decide) (by rw [hne]))
end
section
open Go Go.RowKit
noncomputable def vsL (k:Nat → List Int) (n v:Nat):List Int:=(List.range n).map fun j=>if j < v then (nm k j:Int) else 0
theorem V9 (k:Nat → List Int) (n v:Nat):(vsL k n v).length = n:=by simp [vsL]
theorem R7 {k:Nat → List Int} {n v j:Nat} (hj:j < n):gi (vsL k n v) j = if j < v then (nm k j:Int) else 0:=by simp [vsL,gi,hj]
theorem R6 (k:Nat → List Int) (n:Nat):vsL k n 0 = List.replicate n 0:=by
 apply List.ext_getElem
 ·simp [vsL]
 ·intro i h1 h2; simp [vsL]
theorem Bg (k:Nat → List Int) {n v:Nat} (hv:v < n):(vsL k n v).set v (nm k v:Int) = vsL k n (v + 1):=by
 apply List.ext_getElem
 ·simp [vsL]
 ·intro i h1 h2;rw [List.getElem_set];simp only [vsL,List.getElem_map,List.getElem_range]
  by_cases h:v = i
  ·subst h; simp
  ·rw [if_neg h]
   by_cases h3:i < v
   ·rw [if_pos h3,if_pos (by omega)]
   ·rw [if_neg h3,if_neg (by omega)]
theorem Wa (k:Nat → List Int) (n:Nat):vsL k n n = rz k n:=by
 apply List.ext_getElem
 ·simp [vsL,rz]
 ·intro i h1 h2;have:i < n:=by simpa [vsL] using h1
  simp [vsL,rz,this]
def zBVw21:=PLift.up (And.intro aq (And.intro bn (And.intro bb (And.intro ch (And.intro @if_pos.{1} (And.intro @cf (And.intro @A9 @trivial)))))))
theorem jad:type_of% zBVw21.down:=zBVw21.down
set_option maxRecDepth 8000 in
set_option maxHeartbeats 0 in
theorem Bh (f:NF) (o:Bool) (tt:TypeId) (N:Net) (cls:List Int) (hf:Fair N) (hin:N.inputs.length = N.ends.length) (hl:N.ends.length ≤ 100000) (hc:cls = [] ∨ cls.length = N.ends.length):DCalls Tryz.prog 99 [.agg (be f N),.c (ints o tt cls)] (fun r=>r = [.own false [.sl true 3 1 ((rz (wkL N cls) N.ends.length).map iC)]]):=by
 refine aw Tryz.func99 rfl (by rw [Tryz.ntmps99]; simp) fun w0=>?_;rw [Tryz.ntmps99];have dX:=jad;simp only [bw,bf,Arg.av,be,b9,ints,ends]
 generalize hkk:wkL N cls = k
 refine ab (dR fun K hK=>?_);(repeat refine eV ?_);refine aa (hK _ (wK [1,2] ?_));clear hK K;refine ab (dR fun K hK=>?_);(repeat refine eV ?_);refine aa (hK _ (wK [1,2,5] ?_));clear hK K;refine ab (dR fun K hK=>?_);(repeat refine eV ?_);refine aa (hK _ (wK [1,2,5,6] ?_));clear hK K;refine ab ?_;refine ab (dR fun K hK=>?_);(repeat refine eV ?_);refine aa (hK _ (wK [1,2,5,6,16,17] ?_));clear hK K;refine ac ?_;refine ax (X:=Nat) (fun v=>v ≤ N.ends.length) (fun v=>[(6,.c (.p (.int .i64 (cnB k v)))),(17,.c (.p (.int .i64 v)))]) (fun v=>[((5,0),⟨none,[.sl true 3 1 ((vsL k N.ends.length v).map iC)]⟩)]) (fun v=>N.ends.length - v) 0 (Nat.zero_le _) (by first | rfl | (simp only [ae,pZ,simprocAttr,Int.natCast_zero,R6,C8] <;> rfl)) ?_;rintro v hv;intro E hE;simp only [ae,pZ,simprocAttr] at hE;subst hE;refine ab (dR fun K hK=>?_);(repeat refine eV ?_);refine aa (hK _ (wK [1,2,5,6,16,17,18] ?_));clear hK K;refine ab (dI (fun hb=>?_) (fun hb=>?_))
 ·refine af ?_;show DW _ _ _ _ _;have hv1:v < N.ends.length:=by simpa using hb
  have hvl:=V9 k N.ends.length v;have hcn:=Mg k v;refine ab (ac ?_);refine ab (dR fun K hK=>?_);(repeat refine eV ?_);refine aa (hK _ (wK [1,2,5,6,7,16,17] ?_));clear hK K;refine ab (dR fun K hK=>?_);(repeat refine eV ?_);refine aa (hK _ (wK [1,2,5,6,7,8,16,17] ?_));clear hK K;refine ab ?_;refine ab (dR fun K hK=>?_);(repeat refine eV ?_);refine aa (hK _ (wK [1,2,5,6,7,8,9,16,17] ?_));clear hK K;refine ac ?_;refine ax (X:=Nat × Int) (fun x=>x.1 ≤ v ∧ ((x.2 = -1 ∧ ∀ j,j < x.1 → k j ≠ k v) ∨ ∃ j:Nat,x.2 = j ∧ j < v ∧ k j = k v)) (fun x=>[(8,.c (.p (.int .i64 x.2))),(9,.c (.p (.int .i64 x.1)))]) (fun x=>[]) (fun x=>v - x.1) (0,-1) ⟨Nat.zero_le _,.inl ⟨rfl,fun j hj=>absurd hj (by omega)⟩⟩ (by first | rfl | (simp only [ae,pZ,simprocAttr,Int.natCast_zero] <;> rfl)) ?_;rintro ⟨u,a⟩ ⟨hu,hua⟩;intro E hE;simp only [ae,pZ,simprocAttr] at hE;subst hE;dsimp only at hu hua ⊢;refine ab ?_;refine ab (dR fun K hK=>?_);(repeat refine eV ?_);obtain h1 | h1:=Bool.eq_false_or_eq_true (decide ((u:Int) < (v:Int)))
  ·have hu1:u < v:=by simpa using h1
   rcases hua with ⟨rfl,hno⟩ | ⟨j,rfl,hj,hkj⟩
   ·repeat (apply cr; (focus exact rfl); (focus (simp (disch:=first | omega | (intros; contradiction)) only [ae,bu,pZ,simprocAttr,aq,bn,bb,ch,if_pos,cf,A9 ,h1,show decide ((-1:Int) < 0) = true from rfl]; exact rfl)))
    refine aa (hK _ (wK [1,2,5,6,7,8,9,16,17,26] ?_));clear hK K;refine dI ?_ ?_<;>intro hb
    ·refine af ?_;show DW _ _ _ _ _;refine ab (ac ?_);refine ab (dR fun K hK=>?_);(repeat refine eV ?_);refine cL rfl ⟨rfl,_,rfl⟩ (by omega) (by first | exact Zw) (Pc ⟨false,f.t1,f.o2,f.t2,false,f.t3,false,f.t4⟩ o tt N cls u v hf hin hc (by omega) hv1) ?_;rintro _ rfl;(repeat refine eV ?_);refine aa (hK _ (wK [1,2,5,6,7,8,9,16,17,33] ?_));clear hK K;rw [hkk];refine dI ?_ ?_<;>intro hb
     ·have hkj:k u = k v:=by simpa using hb
      refine dR fun K hK=>?_;(repeat refine eV ?_);refine aa (hK _ (wK [1,2,5,6,7,8,9,16,17] ?_));clear hK K;refine dR fun K hK=>?_;(repeat refine eV ?_);have dK:=@bj;refine aa (hK _ ?_);clear hK K;show ∃ x,_ ∧ _ ∧ Weak _ _;refine ⟨(u + 1,(u:Int)),?_,?_,ay [1,2,5,6,7,8,9,16,17]⟩
      ·exact ⟨hu1,.inr ⟨u,rfl,hu1,hkj⟩⟩
      ·dsimp only; omega
     ·have hkn:k u ≠ k v:=by simpa using hb
      refine af ?_;show DW _ _ _ _ _;refine dR fun K hK=>?_;(repeat refine eV ?_);have dK:=@bj;refine aa (hK _ ?_);clear hK K;show ∃ x,_ ∧ _ ∧ Weak _ _;refine ⟨(u + 1,-1),?_,?_,ay [1,2,5,6,7,8,9,16,17]⟩
      ·refine ⟨hu1,.inl ⟨rfl,fun j hj=>?_⟩⟩
       by_cases hju:j = u
       ·subst hju; exact hkn
       ·exact hno j (by dsimp only at hj; omega)
      ·dsimp only; omega
    ·cases hb
   ·repeat (apply cr; (focus exact rfl); (focus (simp (disch:=first | omega | (intros; contradiction)) only [ae,bu,pZ,simprocAttr,aq,bn,bb,ch,if_pos,cf,A9 ,h1,show decide ((j:Int) < 0) = false by simp]; exact rfl)))
    refine aa (hK _ (wK [1,2,5,6,7,8,9,16,17,26] ?_));clear hK K;refine dI ?_ ?_<;>intro hb
    ·cases hb
    ·have hge:(j:Int) ≥ 0:=by omega
     refine an ?_;refine wK [1,2,5,6,7,8,16,17] ?_;refine ab (dR fun K hK=>?_)
     repeat (apply cr; (focus exact rfl); (focus (simp (disch:=first | omega | (intros; contradiction)) only [ae,bu,pZ,simprocAttr,aq,bn,bb,ch,if_pos,cf,A9 ,decide_eq_true hge]; exact rfl)))
     refine aa (hK _ (wK [1,2,5,6,7,8,16,17,36] ?_));clear hK K;refine dI ?_ ?_<;>intro hb
     ·have hnj:gi (vsL k N.ends.length v) j = (nm k v:Int):=by rw [R7 (by omega),if_pos hj,Iy hkj]
      have hcs:cnB k (v + 1) = cnB k v:=by
       rw [dz,if_neg]; · rfl
       rw [gm]; exact fun h=>h j hj hkj
      have dX:=And.intro dX (@hnj);refine dR fun K hK=>?_;(repeat refine eV ?_);refine aa (hK _ (bd [1,2,5,6,16,17] (by simp only [ae,pZ,simprocAttr ,lv,Bg k hv1]; exact rfl) ?_));clear hK K;refine dR fun K hK=>?_;(repeat refine eV ?_);have dK:=And.intro @bj @hcs;refine aa (hK _ ?_);clear hK K;show ∃ x,_ ∧ _ ∧ Weak _ _;refine ⟨v + 1,?_,?_,ay [1,2,5,6,16,17]⟩
      ·omega
      ·omega
     ·cases hb
  ·have hu1:¬ u < v:=by simpa using h1
   have dX:=And.intro dX (@h1);(repeat refine eV ?_);refine aa (hK _ (wK [1,2,5,6,7,8,9,16,17,26] ?_));clear hK K;refine dI ?_ ?_<;>intro hb
   ·cases hb
   ·rcases hua with ⟨rfl,hno⟩ | ⟨j,rfl,hj,hkj⟩
    ·refine an ?_;refine wK [1,2,5,6,7,8,16,17] ?_;refine ab (dR fun K hK=>?_)
     repeat (apply cr; (focus exact rfl); (focus (simp (disch:=first | omega | (intros; contradiction)) only [ae,bu,pZ,simprocAttr,aq,bn,bb,ch,if_pos,cf,A9 ,show decide ((-1:Int) ≥ 0) = false from rfl]; exact rfl)))
     refine aa (hK _ (wK [1,2,5,6,7,8,16,17,36] ?_));clear hK K;refine dI ?_ ?_<;>intro hb
     ·cases hb
     ·have hnew:jd k v = true:=gm.2 fun j hj=>hno j (by omega);have hnm:(cnB k v:Int) = (nm k v:Int):=by rw [yl hnew]
      have hcs:cnB k (v + 1) = cnB k v + 1:=by rw [dz,if_pos hnew]
      refine ab (dR fun K hK=>?_);(repeat refine eV ?_);refine aa (hK _ (bd [1,2,5,6,16,17] (by simp only [ae,pZ,simprocAttr ,lv,hnm,Bg k hv1]; exact rfl) ?_));clear hK K;refine dR fun K hK=>?_;(repeat refine eV ?_);refine aa (hK _ (wK [1,2,5,6,16,17] ?_));clear hK K;refine dR fun K hK=>?_;(repeat refine eV ?_);have dK:=And.intro @bj (And.intro @hcs @hnm);refine aa (hK _ ?_);clear hK K;show ∃ x,_ ∧ _ ∧ Weak _ _;refine ⟨v + 1,?_,?_,ay [1,2,5,6,16,17]⟩
      ·omega
      ·omega
    ·have hge:(j:Int) ≥ 0:=by omega
     refine an ?_;refine wK [1,2,5,6,7,8,16,17] ?_;refine ab (dR fun K hK=>?_)
     repeat (apply cr; (focus exact rfl); (focus (simp (disch:=first | omega | (intros; contradiction)) only [ae,bu,pZ,simprocAttr,aq,bn,bb,ch,if_pos,cf,A9 ,decide_eq_true hge]; exact rfl)))
     refine aa (hK _ (wK [1,2,5,6,7,8,16,17,36] ?_));clear hK K;refine dI ?_ ?_<;>intro hb
     ·have hnj:gi (vsL k N.ends.length v) j = (nm k v:Int):=by rw [R7 (by omega),if_pos hj,Iy hkj]
      have hcs:cnB k (v + 1) = cnB k v:=by
       rw [dz,if_neg]; · rfl
       rw [gm]; exact fun h=>h j hj hkj
      have dX:=And.intro dX (@hnj);refine dR fun K hK=>?_;(repeat refine eV ?_);refine aa (hK _ (bd [1,2,5,6,16,17] (by simp only [ae,pZ,simprocAttr ,lv,Bg k hv1]; exact rfl) ?_));clear hK K;refine dR fun K hK=>?_;(repeat refine eV ?_);have dK:=And.intro @bj @hcs;refine aa (hK _ ?_);clear hK K;show ∃ x,_ ∧ _ ∧ Weak _ _;refine ⟨v + 1,?_,?_,ay [1,2,5,6,16,17]⟩
      ·omega
      ·omega
     ·cases hb
 ·have hv2:v = N.ends.length:=by
   have:¬ v < N.ends.length:=by simpa using hb
   omega
  refine an ?_;refine wK [5] ?_;refine ab (dR fun K hK=>?_);(repeat refine eV ?_);refine aa (hK _ (wK [4] ?_));clear hK K;exact ai (am Tryz.results99 (.one (.own _ _ _ _ rfl rfl (own1 (cq _ _)))) (by decide) (by rw [hv2,Wa]))
end
section
open Go Go.RowKit
theorem Fair.rng {N:Net} (h:Fair N) (hp:0 < N.ends.length):Rng N:=⟨hp,fun u i hu hi=>by have:=h.node hu hi; omega⟩
theorem Fine.rng {N:Net} (h:Fine N) (hp:0 < N.ends.length):Rng N:=h.fair.rng hp
theorem Jt {P:Program} {f:FuncId} {x:Arg} {t k:Nat} {Post:Res → Prop} (h:DCalls P f [x,.c (.sl false t k [])] Post):DCalls P f [x,.c (.p (.slice none 0 0))] Post:=fun w vs h1 h2=>h w vs h1 fun i y hy=>by
 match i with
 | 0=>exact h2 0 y hy
 | 1 =>
  simp at hy;subst hy;obtain ⟨u,g1,g2⟩:=h2 1 _ rfl;have hu:u = .slice none 0 0:=fp g2;subst hu;exact ⟨_,g1,RO.nil false t k none 0 (Nat.zero_le _)⟩
 | i + 2=>simp at hy
theorem T9 (N:Net):wkL N [] = en N none:=by funext v; simp [wkL]
theorem Uc {N:Net} (hp:0 < N.ends.length) (t:Nat):wkL N (bv N t) = en N (some (bv N t)):=by
 funext v;unfold wkL;rw [if_neg];intro h;have:=di N t;rw [h] at this;simp at this;omega
theorem Pd (N:Net):rz (wkL N []) N.ends.length = bv N 0:=by rw [T9]; rfl
theorem Ee {N:Net} (hp:0 < N.ends.length) (t:Nat):rz (wkL N (bv N t)) N.ends.length = bv N (t + 1):=by rw [Uc hp]; rfl
def zBVw31:=PLift.up (And.intro aq @trivial)
theorem jac:type_of% zBVw31.down:=zBVw31.down
set_option maxRecDepth 8000 in
set_option maxHeartbeats 0 in
theorem qs (f:NF) (N:Net) (t:Nat) (hf:Fair N) (hin:N.inputs.length = N.ends.length) (hl:N.ends.length ≤ 100000) (hp:0 < N.ends.length) (ht:t ≤ 100000):DCalls Tryz.prog 45 [.agg (be f N),.c (.p (.int .i64 t))] (fun r=>r = [.own false [.sl true 3 1 ((bv N t).map iC)]]):=by
 refine aw Tryz.func45 rfl (by rw [Tryz.ntmps45]; simp) fun w0=>?_;rw [Tryz.ntmps45];have dX:=jac;simp only [bw,bf,Arg.av,be,b9,ints,ends];refine ab (dR fun K hK=>?_);(repeat refine eV ?_);refine aa (hK _ (wK [1,2] ?_));clear hK K;refine ab (dR fun K hK=>?_);(repeat refine eV ?_);refine cL rfl ⟨rfl,_,rfl⟩ (by omega) (by first | exact Tj) (Jt (Bh ⟨false,f.t1,f.o2,f.t2,false,f.t3,false,f.t4⟩ false 3 N [] hf hin hl (.inl rfl))) ?_;rintro _ rfl;(repeat refine eV ?_);have dK:=@Pd;refine aa (hK _ (au [1,2,5] ?_));clear hK K;refine ab (ac ?_);refine ax (X:=Nat) (fun x=>x ≤ t) (fun x=>[(1,.c (.p (.int .i64 ((t:Int) - x))))]) (fun x=>[((5,0),⟨none,[.sl true 3 1 ((bv N x).map iC)]⟩)]) (fun x=>t - x) 0 (Nat.zero_le _) (by first | rfl | (simp only [ae,pZ,simprocAttr,Int.natCast_zero,Int.sub_zero] <;> rfl)) ?_;rintro x hx;intro E hE;simp only [ae,pZ,simprocAttr] at hE;subst hE;refine ab ?_;refine ab (dR fun K hK=>?_);(repeat refine eV ?_);refine aa (hK _ (wK [1,2,5,9] ?_));clear hK K;refine dI ?_ ?_<;>intro hb
 ·refine af ?_;show DW _ _ _ _ _;have hx1:x < t:=by simp at hb; omega
  refine ab (ac ?_);refine dR fun K hK=>?_;(repeat refine eV ?_);refine cL rfl ⟨rfl,_,rfl⟩ (by omega) (by first | exact Tj) (Bh ⟨false,f.t1,f.o2,f.t2,false,f.t3,false,f.t4⟩ true 3 N (bv N x) hf hin hl (.inr (di N x))) ?_;rintro _ rfl;(repeat refine eV ?_);refine aa (hK _ (bd [1,2,5] (by simp only [ae,pZ,simprocAttr ,Ee hp]; exact rfl) ?_));clear hK K;refine dR fun K hK=>?_;(repeat refine eV ?_);have dK:=And.intro @bj @Int.sub_sub;refine aa (hK _ ?_);clear hK K;show ∃ x,_ ∧ _ ∧ Weak _ _;refine ⟨x + 1,?_,?_,ay [1,2,5]⟩
  ·omega
  ·omega
 ·have hx2:x = t:=by simp at hb; omega
  refine an ?_;refine wK [5] ?_;refine ab (dR fun K hK=>?_);(repeat refine eV ?_);refine aa (hK _ (wK [4] ?_));clear hK K;exact ai (am Tryz.results45 (.one (.own _ _ _ _ rfl rfl (own1 (cq _ _)))) (by decide) (by rw [hx2]))
theorem Hx (f:NF) (N:Net) (t:Nat) (hf:Fine N) (hin:N.inputs.length = N.ends.length) (hl:N.ends.length ≤ 100000) (hp:0 < N.ends.length) (ht:t ≤ 100000):DCalls Tryz.prog 45 [.agg (be f N),.c (.p (.int .i64 t))] (fun r=>r = [.own false [.sl true 3 1 ((bv N t).map iC)]]):=qs f N t hf.fair hin hl hp ht
end
section
open Go Go.RowKit
theorem Wz (a b:Nat):mst (a:Int) (b:Int) = ((max a b:Nat):Int):=by unfold mst; split <;> omega
theorem Oa (k:Nat → List Int):∀ m,du ((List.range m).map fun v=>(nm k v:Int)) = (cnB k m:Int)
 | 0=>rfl
 | m + 1=>by
  have ih:=Oa k m;unfold du at ih ⊢;rw [List.range_succ,List.map_append,List.foldl_append,ih];show mst (cnB k m:Int) ((nm k m:Int) + 1) = _;rw [show (nm k m:Int) + 1 = ((nm k m + 1:Nat):Int) by omega,Wz,ja8]
theorem rj (N:Net) (t:Nat):du (bv N t) = (br N t:Int):=by rw [sc]; exact Oa _ _
theorem y8 {N:Net} (hl:N.ends.length ≤ 100000) (t:Nat):∀ x ∈ bv N t,0 ≤ x ∧ x < 1000000:=fun x hx=>by
 obtain ⟨i,hi,rfl⟩:=List.getElem_of_mem hx;have hi':i < N.ends.length:=by rw [← di N t]; exact hi
 have:=fx (t:=t) hi';rw [bt hi] at this;have h2:=ll N t;omega
def zBVw41:=PLift.up (And.intro aq @trivial)
theorem jab:type_of% zBVw41.down:=zBVw41.down
set_option maxRecDepth 8000 in
set_option maxHeartbeats 0 in
theorem Kl (f:NF) (N:Net) (d:Nat) (hf:Fair N) (hin:N.inputs.length = N.ends.length) (hl:N.ends.length ≤ 100000) (hp:0 < N.ends.length) (hd:IsSd N d):DCalls Tryz.prog 146 [.agg (be f N)] (fun r=>r = [.c (.p (.int .i64 d))]):=by
 have hdl:=hd.lt (hf.rng hp);refine aw Tryz.func146 rfl (by rw [Tryz.ntmps146]; simp) fun w0=>?_;rw [Tryz.ntmps146];have dX:=jab;simp only [bw,bf,Arg.av,be,b9,ints,ends];refine ab (dR fun K hK=>?_);(repeat refine eV ?_);refine aa (hK _ (wK [1] ?_));clear hK K;refine ab (dR fun K hK=>?_);(repeat refine eV ?_);refine cL rfl ⟨rfl,_,rfl⟩ (by omega) (by first | exact N0) (qs ⟨false,f.t1,f.o2,f.t2,false,f.t3,false,f.t4⟩ N 0 hf hin hl hp (by omega)) ?_;rintro _ rfl;(repeat refine eV ?_);refine aa (hK _ (wK [1,3] ?_));clear hK K;refine ab (dR fun K hK=>?_);(repeat refine eV ?_);refine aa (hK _ (wK [1,3,4] ?_));clear hK K;refine ac ?_;refine ax (X:=Nat) (fun t=>t ≤ d) (fun t=>[(4,.c (.p (.int .i64 t)))]) (fun t=>[((3,0),⟨none,[.sl true 3 1 ((bv N t).map iC)]⟩)]) (fun t=>d - t) 0 (Nat.zero_le _) (by first | rfl | (simp only [ae,pZ,simprocAttr,Int.natCast_zero] <;> rfl)) ?_;rintro t ht;intro E hE;simp only [ae,pZ,simprocAttr] at hE;subst hE;refine ab (ac ?_);refine ab (dR fun K hK=>?_);(repeat refine eV ?_);refine cL rfl ⟨rfl,_,rfl⟩ (by omega) (by first | exact Tj) (Bh ⟨false,f.t1,f.o2,f.t2,false,f.t3,false,f.t4⟩ true 3 N (bv N t) hf hin hl (.inr (di N t))) ?_;rintro _ rfl;(repeat refine eV ?_);refine aa (hK _ (bd [1,3,4,5] (by simp only [ae,pZ,simprocAttr ,Ee hp]; exact rfl) ?_));clear hK K;refine ab ?_;refine ab (dR fun K hK=>?_);(repeat refine eV ?_);refine cL rfl ⟨rfl,_,rfl⟩ (by omega) (by first | exact I3) (vx true 3 (bv N (t + 1)) (y8 hl _) (by rw [di]; omega)) ?_;rintro _ rfl;(repeat refine eV ?_);refine cL rfl ⟨rfl,_,rfl⟩ (by omega) (by first | exact I3) (vx true 3 (bv N t) (y8 hl _) (by rw [di]; omega)) ?_;rintro _ rfl;(repeat refine eV ?_);have dK:=@rj;refine aa (hK _ (au [1,4,5,17] ?_));clear hK K;refine dI ?_ ?_<;>intro hb
 ·have he:br N (t + 1) = br N t:=by simp at hb; omega
  have htd:t = d:=by
   rcases Nat.lt_or_ge t d with h | h
   ·exact absurd he (hd.2 t h)
   ·omega
  refine ab (dR fun K hK=>?_);(repeat refine eV ?_);refine aa (hK _ (wK [2] ?_));clear hK K;exact ai (am Tryz.results146 (.one (.plain _ _ rfl)) (by decide) (by rw [htd]))
 ·have htd:t < d:=by
   rcases Nat.lt_or_ge t d with h | h
   ·exact h
   ·have:t = d:=by omega
    subst this;have:=hd.1;simp [this] at hb
  refine af ?_;show DW _ _ _ _ _;refine dR fun K hK=>?_;(repeat refine eV ?_);refine aa (hK _ (wK [1,3,4] ?_));clear hK K;refine dR fun K hK=>?_;(repeat refine eV ?_);have dK:=@bj;refine aa (hK _ ?_);clear hK K;show ∃ x,_ ∧ _ ∧ Weak _ _;refine ⟨t + 1,?_,?_,ay [1,3,4]⟩
  ·omega
  ·omega
end
end Go.Proofs.YtfknckinfcicbaaGreat

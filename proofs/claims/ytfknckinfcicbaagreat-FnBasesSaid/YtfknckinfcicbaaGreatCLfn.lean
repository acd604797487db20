/- slices.IndexFunc and slices.ContainsFunc at lists of numbers, over data -/
import Derived.Test.YtfknckinfcicbaaGreatCJn23
import Derived.Test.YtfknckinfcicbaaGreatCDbf
import Derived.Test.YtfknckinfcicbaaGreatCJn26
set_option linter.unusedSimpArgs false
set_option linter.unusedVariables false
namespace Go.Proofs.YtfknckinfcicbaaGreat
set_option maxHeartbeats 0
set_option maxRecDepth 8000
open Go Go.RowKit
def zBLfn1:=PLift.up (And.intro ee (And.intro bb (And.intro ch (And.intro @if_pos.{1} (And.intro @cf (And.intro @bo (And.intro @a7 (And.intro @ba (And.intro @df (And.intro @ek @trivial))))))))))
theorem Ur:type_of% zBLfn1.down:=zBLfn1.down
theorem Hk (o:Bool) (t:TypeId) (es:List (List Int)) (g:FuncId) (css:List (List C)) (b:Nat → Bool) (hl:es.length ≤ 1000000) (hm:ap Tryz.prog g = true) (hg:∀ j,j < es.length → DCalls Tryz.prog g ([.c (.sl true 3 1 ((lg es j).map iC))] ++ css.map .rp) (fun r=>r = [.c (.p (.bool (b j)))])):DCalls Tryz.prog 147 [.c (.sl o t 1 (es.map (lsC 3))),.fn g css] (fun r=>r = [.c (.p (.int .i64 (Ag es.length b)))]):=by
 refine aw Tryz.func147 rfl (by rw [Tryz.ntmps147]; simp) fun w0=>?_;rw [Tryz.ntmps147];have dX:=Ur;simp only [bw,bf,Arg.av,be,b9,ints,ends];refine ab (dR fun K hK=>?_);(repeat refine eV ?_);refine aa (hK _ (wK [0,1] ?_));clear hK K;refine ab ?_;refine ab (dR fun K hK=>?_);(repeat refine eV ?_);refine aa (hK _ (wK [0,1,7,8] ?_));clear hK K;refine ac ?_;refine ax (X:=Nat) (fun k=>k ≤ es.length ∧ ∀ j,j < k → b j = false) (fun k=>[(8,.c (.p (.int .i64 k)))]) (fun k=>[]) (fun k=>es.length - k) 0 ⟨Nat.zero_le _,fun j hj=>by simp at hj⟩ (by first | rfl | (simp only [ae,pZ,simprocAttr,Int.natCast_zero] <;> rfl)) ?_;rintro k ⟨hk,hne⟩;intro E hE;simp only [ae,pZ,simprocAttr] at hE;subst hE;refine ab (dR fun K hK=>?_);(repeat refine eV ?_);refine aa (hK _ (wK [0,1,7,8,9] ?_));clear hK K;refine ab (dI (fun hb=>?_) (fun hb=>?_))
 ·have hkl:k < es.length:=by simpa using hb
  refine af ?_;show DW _ _ _ _ _;refine ab (ac ?_);refine ab (dR fun K hK=>?_);(repeat refine eV ?_);refine aa (hK _ (wK [0,1,5,7,8] ?_));clear hK K;refine ab (dR fun K hK=>?_);(repeat refine eV ?_);refine zz rfl ⟨rfl,_,rfl⟩ (by omega) (by simp (disch:=first | omega | (intros; contradiction)) only [ae,bu,pZ,simprocAttr,ee,bb,ch,if_pos,cf,bo,a7,ba,df,ek] <;> exact rfl) (by first | assumption) (by simp (disch:=first | omega | (intros; contradiction)) only [ae,bu,pZ,simprocAttr,ee,bb,ch,if_pos,cf,bo,a7,ba,df,ek] <;> exact rfl) (hg k hkl) ?_;rintro _ rfl;(repeat refine eV ?_);refine aa (hK _ (wK [0,1,5,7,8,16] ?_));clear hK K;refine dI ?_ ?_<;>intro hb
  ·have hi:Ag es.length b = k:=Fb hkl hb hne;refine ab (dR fun K hK=>?_);(repeat refine eV ?_);refine aa (hK _ (wK [4] ?_));clear hK K;exact ai (am Tryz.results147 (.one (.plain _ _ rfl)) (by decide) (by rw [hi]))
  ·refine af ?_;show DW _ _ _ _ _;refine dR fun K hK=>?_;(repeat refine eV ?_);have dK:=@bj;refine aa (hK _ ?_);clear hK K;show ∃ x,_ ∧ _ ∧ Weak _ _;refine ⟨k + 1,?_,?_,ay [0,1,7,8]⟩
   ·refine ⟨hkl,fun j hj=>?_⟩
    rcases Nat.lt_or_ge j k with h | h
    ·exact hne j h
    ·obtain rfl:j = k:=by omega
     exact hb
   ·omega
 ·have hkl:k = es.length:=by
   have:¬ (k:Int) < (es.length:Int):=by simpa using hb
   omega
  subst hkl;have hi:Ag es.length b = -1:=Fc hne;refine an ?_;refine wK [] ?_;refine ab (dR fun K hK=>?_);(repeat refine eV ?_);refine aa (hK _ (wK [4] ?_));clear hK K;exact ai (am Tryz.results147 (.one (.plain _ _ rfl)) (by decide) (by rw [hi]))
theorem Ak (o:Bool) (t:TypeId) (es:List (List Int)) (g:FuncId) (css:List (List C)) (b:Nat → Bool) (hl:es.length ≤ 1000000) (hm:ap Tryz.prog g = true) (hg:∀ j,j < es.length → DCalls Tryz.prog g ([.c (.sl true 3 1 ((lg es j).map iC))] ++ css.map .rp) (fun r=>r = [.c (.p (.bool (b j)))])):DCalls Tryz.prog 121 [.c (.sl o t 1 (es.map (lsC 3))),.fn g css] (fun r=>r = [.c (.p (.bool (qp es.length b)))]):=by
 refine aw Tryz.func121 rfl (by rw [Tryz.ntmps121]; simp) fun w0=>?_;rw [Tryz.ntmps121];have dX:=Ur;simp only [bw,bf,Arg.av,be,b9,ints,ends];refine ab (dR fun K hK=>?_);(repeat refine eV ?_);refine aa (hK _ (wK [0,1] ?_));clear hK K;refine ab (dR fun K hK=>?_)
 repeat (apply cr; (focus exact rfl); (focus (simp (disch:=first | omega | (intros; contradiction)) only [ae,bu,pZ,simprocAttr,ee,bb,ch,if_pos,cf,bo,a7,ba,df,ek ,Gj]; exact rfl)))
 refine fb rfl ⟨rfl,_,rfl⟩ (by omega) (by first | exact Gj) (by simp (disch:=first | omega | (intros; contradiction)) only [ae,bu,pZ,simprocAttr,ee,bb,ch,if_pos,cf,bo,a7,ba,df,ek ,Gj] <;> exact rfl) (Hk o t es g css b hl hm hg) ?_;rintro _ rfl
 repeat (apply cr; (focus exact rfl); (focus (simp (disch:=first | omega | (intros; contradiction)) only [ae,bu,pZ,simprocAttr,ee,bb,ch,if_pos,cf,bo,a7,ba,df,ek ,Gj]; exact rfl)))
 refine aa (hK _ (wK [4] ?_));clear hK K;exact ai (am Tryz.results121 (.one (.plain _ _ rfl)) (by decide) (by rw [← Oo]))
end Go.Proofs.YtfknckinfcicbaaGreat

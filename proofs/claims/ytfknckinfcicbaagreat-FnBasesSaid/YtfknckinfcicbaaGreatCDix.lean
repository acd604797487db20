/- slices.Index, slices.Contains, impl.isConnected over data -/
import Derived.Test.YtfknckinfcicbaaGreatCDbf
import Derived.Test.YtfknckinfcicbaaGreatCJn9
import Derived.Test.YtfknckinfcicbaaGreatCJn35
set_option linter.unusedSimpArgs false
set_option linter.unusedVariables false
namespace Go.Proofs.YtfknckinfcicbaaGreat
set_option maxHeartbeats 0
set_option maxRecDepth 8000
open Go Go.RowKit
def Gs (xs:List Int) (x:Int):Int:=Dv xs.length fun j=>gi xs j == x
def zBDix1:=PLift.up (And.intro aq (And.intro bb (And.intro ch (And.intro bn (And.intro b7 (And.intro @if_pos.{1} (And.intro @cf (And.intro cd (And.intro @cx (And.intro @cw (And.intro @bo (And.intro @a7 (And.intro @ba @trivial)))))))))))))
theorem L5:type_of% zBDix1.down:=zBDix1.down
theorem X8 (o:Bool) (t:TypeId) (xs:List Int) (x:Int) (hl:xs.length ≤ 1000000):DCalls Tryz.prog 148 [.c (.sl o t 1 (xs.map iC)),.c (.p (.int .i64 x))] (fun r=>r = [.c (.p (.int .i64 (Gs xs x)))]):=by
 refine aw Tryz.func148 rfl (by rw [Tryz.ntmps148]; simp) fun w0=>?_;rw [Tryz.ntmps148];have dX:=L5;simp only [bw,bf,Arg.av,be,b9,ints,ends];refine ab (dR fun K hK=>?_);(repeat refine eV ?_);refine aa (hK _ (wK [0,1] ?_));clear hK K;refine ab ?_;refine ab (dR fun K hK=>?_);(repeat refine eV ?_);refine aa (hK _ (wK [0,1,7,8] ?_));clear hK K;refine ac ?_;refine ax (X:=Nat) (fun k=>k ≤ xs.length ∧ ∀ j,j < k → (gi xs j == x) = false) (fun k=>[(8,.c (.p (.int .i64 k)))]) (fun k=>[]) (fun k=>xs.length - k) 0 ⟨Nat.zero_le _,fun j hj=>by simp at hj⟩ (by first | rfl | (simp only [ae,pZ,simprocAttr,Int.natCast_zero] <;> rfl)) ?_;rintro k ⟨hk,hne⟩;intro E hE;simp only [ae,pZ,simprocAttr] at hE;subst hE;refine ab (dR fun K hK=>?_);(repeat refine eV ?_);refine aa (hK _ (wK [0,1,7,8,9] ?_));clear hK K;refine ab (dI (fun hb=>?_) (fun hb=>?_))
 ·have hkl:k < xs.length:=by simpa using hb
  refine af ?_;show DW _ _ _ _ _;refine ab (ac ?_);refine ab (dR fun K hK=>?_);(repeat refine eV ?_);refine aa (hK _ (wK [0,1,5,7,8] ?_));clear hK K;refine ab (dR fun K hK=>?_);(repeat refine eV ?_);refine aa (hK _ (wK [0,1,5,7,8,16] ?_));clear hK K;refine dI ?_ ?_<;>intro hb
  ·have he:gi xs k = x:=Eq.symm (by simpa using hb);have hi:Gs xs x = k:=Qs hkl (by simpa using he) hne;refine ab (dR fun K hK=>?_);(repeat refine eV ?_);refine aa (hK _ (wK [4] ?_));clear hK K;exact ai (am Tryz.results148 (.one (.plain _ _ rfl)) (by decide) (by rw [hi]))
  ·have he:(gi xs k == x) = false:=by
    have:x ≠ gi xs k:=by simpa using hb
    simpa using fun h=>this h.symm
   refine af ?_;show DW _ _ _ _ _;refine dR fun K hK=>?_;(repeat refine eV ?_);have dK:=@bj;refine aa (hK _ ?_);clear hK K;show ∃ x,_ ∧ _ ∧ Weak _ _;refine ⟨k + 1,?_,?_,ay [0,1,7,8]⟩
   ·refine ⟨hkl,fun j hj=>?_⟩
    rcases Nat.lt_or_ge j k with h | h
    ·exact hne j h
    ·obtain rfl:j = k:=by omega
     exact he
   ·omega
 ·have hkl:k = xs.length:=by
   have:¬ (k:Int) < (xs.length:Int):=by simpa using hb
   omega
  subst hkl;have hi:Gs xs x = -1:=Qt hne;refine an ?_;refine wK [] ?_;refine ab (dR fun K hK=>?_);(repeat refine eV ?_);refine aa (hK _ (wK [4] ?_));clear hK K;exact ai (am Tryz.results148 (.one (.plain _ _ rfl)) (by decide) (by rw [hi]))
theorem Mt (o:Bool) (t:TypeId) (xs:List Int) (x:Int) (hl:xs.length ≤ 1000000):DCalls Tryz.prog 123 [.c (.sl o t 1 (xs.map iC)),.c (.p (.int .i64 x))] (fun r=>r = [.c (.p (.bool (decide (0 ≤ Gs xs x))))]):=by
 refine aw Tryz.func123 rfl (by rw [Tryz.ntmps123]; simp) fun w0=>?_;rw [Tryz.ntmps123];have dX:=L5;simp only [bw,bf,Arg.av,be,b9,ints,ends];refine ab (dR fun K hK=>?_);(repeat refine eV ?_);refine aa (hK _ (wK [0,1] ?_));clear hK K;refine ab (dR fun K hK=>?_)
 repeat (apply cr; (focus exact rfl); (focus (simp (disch:=first | omega | (intros; contradiction)) only [ae,bu,pZ,simprocAttr,aq,bb,ch,bn,b7,if_pos,cf,cd,cx,cw,bo,a7,ba ,Gi]; exact rfl)))
 refine fb rfl ⟨rfl,_,rfl⟩ (by omega) (by first | exact Gi) (by simp (disch:=first | omega | (intros; contradiction)) only [ae,bu,pZ,simprocAttr,aq,bb,ch,bn,b7,if_pos,cf,cd,cx,cw,bo,a7,ba ,Gi] <;> exact rfl) (X8 o t xs x hl) ?_;rintro _ rfl
 repeat (apply cr; (focus exact rfl); (focus (simp (disch:=first | omega | (intros; contradiction)) only [ae,bu,pZ,simprocAttr,aq,bb,ch,bn,b7,if_pos,cf,cd,cx,cw,bo,a7,ba ,Gi]; exact rfl)))
 refine aa (hK _ (wK [4] ?_));clear hK K;exact ai (am Tryz.results123 (.one (.plain _ _ rfl)) (by decide) rfl)
theorem Eo {N:Net} (hs:Sym N.ends) {a b:Nat} (ha:a < N.ends.length) (hb:b < N.ends.length) (h:∀ w,w < N.ends.length → 0 ≤ gi (fo N a) w):∀ w,w < N.ends.length → 0 ≤ gi (fo N b) w:=by
 have hx:=j9 hs ha;have hy:=j9 hs hb
 have h1:∀ (k:Nat) w,w < N.ends.length → gi (fo N a) w = k → 0 ≤ gi (fo N b) w → 0 ≤ gi (fo N b) a:=fun k=>by
  induction k with
  | zero=>intro w hw hk h2; rw [← hx.zero w hw (by simpa using hk)]; exact h2
  | succ k ih =>
   intro w hw hk h2;obtain ⟨j,hj,h3⟩:=hx.back w hw (by omega);exact ih _ (d9 hs hw hj).1 (by omega) (hy.step w hw h2 j hj).1
 obtain ⟨k,hk⟩:=Int.eq_ofNat_of_zero_le (h b hb);have h0:=h1 k b hb hk (by rw [hy.root]; exact Int.le_refl 0)
 have h2:∀ (k:Nat) w,w < N.ends.length → gi (fo N a) w = k → 0 ≤ gi (fo N b) w:=fun k=>by
  induction k with
  | zero=>intro w hw hk; rw [hx.zero w hw (by simpa using hk)]; exact h0
  | succ k ih =>
   intro w hw hk;obtain ⟨j,hj,h3⟩:=hx.back w hw (by omega);obtain ⟨h4,h5,h6,-⟩:=d9 hs hw hj;have:=(hy.step _ h4 (ih _ h4 (by omega)) _ h5).1;rwa [h6] at this
 intro w hw;obtain ⟨k,hk⟩:=Int.eq_ofNat_of_zero_le (h w hw);exact h2 k w hw hk
theorem U8 {N:Net} (hs:Sym N.ends) {a b:Nat} (ha:a < N.ends.length) (hb:b < N.ends.length):qh N a = qh N b:=by
 rw [Bool.eq_iff_iff,ou hs ha,ou hs hb];exact ⟨Eo hs ha hb,Eo hs hb ha⟩
theorem U7 {N:Net} (hs:Sym N.ends) {a:Nat} (ha:a < N.ends.length):(!decide (0 ≤ Gs (fo N a) (-1))) = qh N a:=by
 have hd:=j9 hs ha
 rcases Cw (fo N a).length (fun j=>gi (fo N a) j == -1) with ⟨h1,h2⟩ | ⟨m,h1,h2,h3,-⟩
 ·have e:decide (0 ≤ Gs (fo N a) (-1)) = false:=by unfold Gs; rw [h1]; rfl
  rw [e];refine ((ou hs ha).2 fun w hw=>?_).symm;have h3:=h2 w (by rw [hd.len]; exact hw);have h4:=hd.low w hw;have:gi (fo N a) w ≠ -1:=by simpa using h3
  omega
 ·have e:decide (0 ≤ Gs (fo N a) (-1)) = true:=by unfold Gs; rw [h1]; simp
  rw [e];refine (Bool.eq_false_iff.2 fun hc=>?_).symm;rw [hd.len] at h2;have:=(ou hs ha).1 hc m h2;have h4:gi (fo N a) m = -1:=by simpa using h3
  omega
theorem tu (f:NF) (N:Net) (hg:bg N = true) {a:Nat} (ha:a < N.ends.length):DCalls Tryz.prog 76 [.agg (be f N)] (fun r=>r = [.c (.p (.bool (qh N a)))]):=by
 have hs:Sym N.ends:=(jv hg).sym;have hn:=jf hg
 have hdg:∀ a,(gl N.ends a).length ≤ 1000:=fun a=>by
  rcases Nat.lt_or_ge a N.ends.length with h | h
  ·have:=Jg hg h; omega
  ·have:gl N.ends a = []:=by unfold gl; rw [List.getD_eq_getElem?_getD,List.getElem?_eq_none h]; rfl
   rw [this]; simp
 have hdl:=(j9 hs (show 0 < N.ends.length by omega)).len;have hc0:=U7 hs (show 0 < N.ends.length by omega);have hca:=U8 hs (show 0 < N.ends.length by omega) ha;refine aw Tryz.func76 rfl (by rw [Tryz.ntmps76]; simp) fun w0=>?_;rw [Tryz.ntmps76];have dX:=L5;simp only [bw,bf,Arg.av,be,b9,ints,ends];refine ab (dR fun K hK=>?_);(repeat refine eV ?_);refine aa (hK _ (wK [1] ?_));clear hK K;refine ab (dR fun K hK=>?_)
 repeat (apply cr; (focus exact rfl); (focus (simp (disch:=first | omega | (intros; contradiction)) only [ae,bu,pZ,simprocAttr,aq,bb,ch,bn,b7,if_pos,cf,cd,cx,cw,bo,a7,ba ,uo,uq]; exact rfl)))
 refine fb rfl ⟨rfl,_,rfl⟩ (by omega) (by first | exact uo | exact uq) (by simp (disch:=first | omega | (intros; contradiction)) only [ae,bu,pZ,simprocAttr,aq,bb,ch,bn,b7,if_pos,cf,cd,cx,cw,bo,a7,ba ,uo,uq] <;> exact rfl) (Ai ⟨false,f.t1,f.o2,f.t2,false,f.t3,false,f.t4⟩ N 0 hs (by omega) (by omega) hdg) ?_;rintro _ rfl
 repeat (apply cr; (focus exact rfl); (focus (simp (disch:=first | omega | (intros; contradiction)) only [ae,bu,pZ,simprocAttr,aq,bb,ch,bn,b7,if_pos,cf,cd,cx,cw,bo,a7,ba ,uo,uq]; exact rfl)))
 refine fb rfl ⟨rfl,_,rfl⟩ (by omega) (by first | exact uo | exact uq) (by simp (disch:=first | omega | (intros; contradiction)) only [ae,bu,pZ,simprocAttr,aq,bb,ch,bn,b7,if_pos,cf,cd,cx,cw,bo,a7,ba ,uo,uq] <;> exact rfl) (Mt true 3 (fo N 0) (-1) (by omega)) ?_;rintro _ rfl
 repeat (apply cr; (focus exact rfl); (focus (simp (disch:=first | omega | (intros; contradiction)) only [ae,bu,pZ,simprocAttr,aq,bb,ch,bn,b7,if_pos,cf,cd,cx,cw,bo,a7,ba ,uo,uq]; exact rfl)))
 have dK:=And.intro @hc0 @hca;refine aa (hK _ (au [2] ?_));clear hK K;exact ai (am Tryz.results76 (.one (.plain _ _ rfl)) (by decide) rfl)
end Go.Proofs.YtfknckinfcicbaaGreat

/- Parts of the proof. -/
import Derived.Test.YtfknckinfcicbaaGreatCIm4
import Derived.Test.YtfknckinfcicbaaGreatCJn13
import Derived.Test.YtfknckinfcicbaaGreatCJn28
import Derived.Test.YtfknckinfcicbaaGreatCJn26
import Derived.Test.YtfknckinfcicbaaGreatCDcv
import Derived.Test.YtfknckinfcicbaaGreatCJn31
import Derived.Test.YtfknckinfcicbaaGreatCJn9
import Derived.Test.YtfknckinfcicbaaGreatCDt
import Derived.Shelf.Spec.SlicesGrow
import Derived.Test.YtfknckinfcicbaaGreatCJn19
import Derived.Test.YtfknckinfcicbaaGreatCShelf
import Derived.Test.YtfknckinfcicbaaGreatCJn7
import Derived.Test.YtfknckinfcicbaaGreatCIm1
import Derived.Deep.DeepCutAuto
import Derived.RegionTactic
import Derived.ChangeAlike
import Derived.Lib.BitFns
import Derived.StillTailTactics
set_option linter.unusedSimpArgs false
set_option linter.unusedVariables false
namespace Go.Proofs.YtfknckinfcicbaaGreat
section
open Go.RowKit
attribute [local go_sem] BW.cell BW.frozen
open Go.BigFrame
end
section
open Go Go.RowKit
def lsO (o2:Bool) (t2:TypeId) (xs:List Int):List C:=[.sl o2 t2 1 (xs.map iC)]
theorem jdt {o2:Bool} {t2:TypeId} {L:List (List Int)} {k:Nat} (h:k < L.length):cg (L.map (lsO o2 t2)) k 0 = some (.sl o2 t2 1 ((lg L k).map iC)):=bi.2 ⟨_,by rw [List.getElem?_map,List.getElem?_eq_getElem h]; rfl,by rw [Cm h]; rfl⟩
theorem jdl {o2:Bool} {t2:TypeId} {L:List (List Int)} {k:Nat} (h:k < L.length):(L.map (lsO o2 t2)).getD k [] = [.sl o2 t2 1 ((lg L k).map iC)]:=by
 rw [List.getD_eq_getElem?_getD,List.getElem?_map,List.getElem?_eq_getElem h,Cm h]; rfl
end
section
open Go Go.RowKit
theorem Zs:ap Tryz.prog 140 = true:=by kernel_rfl
theorem jc4 (o:Bool) (tt:TypeId) (xs:List Int) (hp:0 < xs.length):DCalls Tryz.prog 140 [.c (ints o tt xs)] (fun r=>r = [.c (.p (.int .i64 (Lib.maxOf xs)))]):=ot fun w vs h1 h2=>by
 obtain ⟨u,rfl,g1⟩:=J6 h1 h2;have h:=qd g1;have hb:=h.bound;obtain ⟨A,c,rfl,hnc,hm,hx⟩:=h;obtain ⟨b,off,rfl,-,hc⟩:=hx hp;refine (Tryz.slices_Max_int b off xs.length c xs w hp (Nat.le_refl _) hb hc).mono ?_;rintro e w1 ⟨rfl,rfl⟩;exact ⟨by rw [List.take_length],Below.refl _ _⟩
end
section
open Go Go.RowKit
theorem Wj {P:Program} (w:World) (d:Nat) (t e:TypeId) (a:Option Addr) (n c:Nat) (h:P.underlying t = some (.slice e)):(Op.equalIn (d + 1) t (.slice a n c) (.slice none 0 0)).run P w = .ok a.isNone w:=by
 cases a <;> simp [Op.equalIn,run_underlying h]
theorem Ss {P:Program} (w:World) (t e:TypeId) (a:Option Addr) (n c:Nat) (h:P.underlying t = some (.slice e)):(binOp .neq t (.slice a n c) (.slice none 0 0)).run P w = .ok (.bool (!a.isNone)) w:=by
 simp only [binOp];simp [Op.equal,Op.maxDepth,Wj w 9999 t e a n c h]
theorem Ov {w0:Base} {e:Env} {id r s d:Nat} {o1 o2:Oper} {Q:Exit → Env → Prop} {z:Bool} (h1:o1.op = .move (.tmp r)) (h1d:o1.dst = some s) (h1g:o1.guard = none) (h2:o2.op = .binOp .neq 26 (.tmp s) (.const (.slice none 0 0)) 26) (h2d:o2.dst = some d) (h2g:o2.guard = none)
 (hv:∀ (a:Act) (w:World) (val:Val) (S:Nat → Prop),StV w0 e a w val S → ∃ A n c,a.tmps.getD r undef = .slice A n c ∧ (A.isSome = z)) (hsn:s < e.n) (hdn:d < e.n)
 (hk:Q .normal ((e.set s .dead noCon).set d (.c (.p (.bool z))) noCon)):DW Tryz.prog w0 (.region id #[o1,o2] false) Q e:=by
 intro a w ⟨val,S,hst⟩;obtain ⟨A,n,c,hv1,hz⟩:=hv a w val S hst;refine wp_region ?_;rw [show List.range (#[o1,o2]:Array Oper).size = [0,1] from rfl,wpOps_cons];unfold wpOp;have e0:(#[o1,o2]:Array Oper)[0]? = some o1:=rfl;have e1:(#[o1,o2]:Array Oper)[1]? = some o2:=rfl;rw [e0];dsimp only;rw [if_pos (by simp [Region.wanted,h1g])];left;refine dm (v:=a.tmps.getD r undef) (by unfold execOp; rw [h1]; rfl) ?_;rw [wpOps_cons];unfold wpOp;rw [e1];dsimp only;rw [if_pos (by simp [Region.wanted,h2g])];left;have hsz:a.tmps.size = e.n:=hst.sz
 have hs2:(a.put (some s) (a.tmps.getD r undef)).eval (.tmp s) = .slice A n c:=by
  show (a.put (some s) (a.tmps.getD r undef)).tmps.getD s undef = _;rw [← hv1];simp [Act.put,hsz,hsn]
 have hst1:=(hst.setP (d:=s) (av:=.dead) (v:=a.tmps.getD r undef) hsn (Below.refl _ _) trivial);have hst2:=(hst1.setP (d:=d) (av:=.c (.p (.bool z))) (v:=.bool z) (w':=w) hdn (Below.refl _ _) (.p _));rw [h1d];refine dm (v:=.bool z) (w':=w) ?_ ?_
 ·unfold execOp;rw [h2];show Sem.run _ _ _ = _;have e2:(a.put (some s) (a.tmps.getD r undef)).eval (.const (.slice none 0 0)) = .slice none 0 0:=rfl;have hq:=Ss (P:=Tryz.prog) w 26 3 A n c (by kernel_rfl);simp only [hs2,e2,eqGuard];rw [← hz];cases A <;> simp [hq,go_sem]
 ·rw [h2d];exact ⟨_,hk,val,S,hst2⟩
theorem S9 {w0:Base} {e:Env} {a:Act} {w:World} {val:Val} {S:Nat → Prop} {r:Nat} {t:TypeId} {k:Nat} {rows:List (List C)} (h:StV w0 e a w val S) (hs:e.s r = .own false 1) (hc:e.con (r,0) = some ⟨none,[.sl true t k rows]⟩) (hne:rows ≠ []):∃ A n c,a.tmps.getD r undef = .slice A n c ∧ A.isSome = true:=by
 have h1:=h.slot r;rw [hs] at h1;obtain ⟨-,-,h3⟩:=h1;have h4:=h.mem.node (r,0) _ [(0,0)] _ hc rfl;obtain ⟨-,-,h5⟩:=h4
 rcases h5 with ⟨h6,-⟩ | ⟨b,o,cap,cur,h7,-⟩
 ·exact absurd h6 hne
 ·exact ⟨_,_,_,h3.trans h7,rfl⟩
theorem Ta {w0:Base} {e:Env} {a:Act} {w:World} {val:Val} {S:Nat → Prop} {r:Nat} (h:StV w0 e a w val S) (hs:e.s r = .c (.p (.slice none 0 0))):∃ A n c,a.tmps.getD r undef = .slice A n c ∧ A.isSome = false:=by
 have h1:=h.slot r;rw [hs] at h1;exact ⟨none,0,0,fp h1,rfl⟩
end
section
open Go.RowKit
attribute [local go_sem] BW.cell BW.frozen
open Go.BigFrame
end
end Go.Proofs.YtfknckinfcicbaaGreat

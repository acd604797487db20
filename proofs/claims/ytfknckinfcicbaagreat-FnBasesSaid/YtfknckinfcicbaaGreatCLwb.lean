/- What the laws over codes have in common. -/
import Derived.Test.YtfknckinfcicbaaGreatCJn19
import Derived.Test.YtfknckinfcicbaaGreatCDcu
import Derived.Test.YtfknckinfcicbaaGreatCJn7
import Derived.Test.YtfknckinfcicbaaGreatCDt
set_option linter.unusedSimpArgs false
set_option linter.unusedVariables false
namespace Go.Proofs.YtfknckinfcicbaaGreat
open Go Go.RowKit
def ki (bs:List Int):Prop:=bs.length ≤ 9223372036854775807 ∧ ∀ x ∈ bs,0 ≤ x ∧ x ≤ 255
def Vf (a b:List Int):Bool:=decide ((a.length:Int) > 1048576) || decide ((b.length:Int) > 1048576 - (a.length:Int))
theorem X1 {a b:List Int} (h:Vf a b = false) (ha:ki a) (hb:ki b):dp a ∧ dp b:=by
 simp only [Vf,Bool.or_eq_false_iff,decide_eq_false_iff_not] at h;exact ⟨⟨by omega,ha.2⟩,⟨by omega,hb.2⟩⟩
def zBLwb1:=PLift.up (And.intro qt (And.intro Kp @trivial))
theorem jai:type_of% zBLwb1.down:=zBLwb1.down
set_option maxRecDepth 8000 in
set_option maxHeartbeats 0 in
theorem jcx (a b:List Int) (ha:ki a):DCalls Tryz.prog 6 [.c (codeC a),.c (codeC b)] (fun r=>r = [.c (.p (.bool (Vf a b)))]):=by
 have hal:=ha.1;refine aw Tryz.func6 rfl (by rw [Tryz.ntmps6]; simp) fun w0=>?_;rw [Tryz.ntmps6];have dX:=jai;simp only [bw,bf,Arg.av,codeC];refine ab (dR fun K hK=>?_);(repeat refine eV ?_);refine aa (hK _ (wK [0,1] ?_));clear hK K;refine ab (dR fun K hK=>?_)
 repeat (apply cr; (focus exact rfl); (focus (simp (disch:=first | omega | (intros; contradiction)) only [ae,bu,pZ,simprocAttr,qt,Kp ,qt,Kp]; exact rfl)))
 obtain h | h:=Bool.eq_false_or_eq_true (decide ((a.length:Int) > 1048576))
 ·repeat (apply cr; (focus exact rfl); (focus (simp (disch:=first | omega | (intros; contradiction)) only [ae,bu,pZ,simprocAttr,qt,Kp ,h,qt,Kp]; exact rfl)))
  have dK:=@h;refine aa (hK _ (au [4] ?_));clear hK K;exact ai (am Tryz.results6 (.one (.plain _ _ rfl)) (by decide) (by simp only [Vf,h,Bool.true_or]))
 ·repeat (apply cr; (focus exact rfl); (focus (simp (disch:=first | omega | (intros; contradiction)) only [ae,bu,pZ,simprocAttr,qt,Kp ,h,qt,Kp]; exact rfl)))
  have dK:=@h;refine aa (hK _ (au [4] ?_));clear hK K;exact ai (am Tryz.results6 (.one (.plain _ _ rfl)) (by decide) (by simp only [Vf,h,Bool.false_or]))
theorem J0 {w:World} {v:Value} {L:Nat} (h:Ke w v L):∃ bs,ki bs ∧ RO w (fun b=>b < w.heap.size) (codeC bs) v:=by
 obtain ⟨A,c,rfl,hL,⟨hc1,hc2⟩,hx⟩:=h
 cases L with
 | zero=>exact ⟨[],⟨by simp,fun x hx=>by cases hx⟩,RO.nil false _ 1 A c hc2⟩
 | succ L =>
  obtain ⟨b,off,rfl,hb⟩:=hx (by omega)
  have hb':∀ j,∃ z:Int,j < L + 1 → 0 ≤ z ∧ z ≤ 255 ∧ w.cell? ⟨b,off + j,none⟩ = some (.int .u8 z):=fun j=>by
   by_cases hj:j < L + 1
   ·obtain ⟨z,hz⟩:=hb j hj; exact ⟨z,fun _=>hz⟩
   ·exact ⟨0,fun h=>absurd h hj⟩
  obtain ⟨z,hz⟩:=Classical.skolem.1 hb';have hlen:((List.range (L + 1)).map z).length = L + 1:=by simp
  have hrow:∀ {j q:Nat} {cc:C},cg (((List.range (L + 1)).map z).map bC) j q = some cc → q = 0 ∧ j < L + 1 ∧ cc = .p (.int .u8 (z j)):=fun {j q cc} hjq=>by
   obtain ⟨r,g1,g2⟩:=bi.1 hjq;rw [List.map_map,List.getElem?_map] at g1
   cases hj:(List.range (L + 1))[j]? with
   | none=>rw [hj] at g1; cases g1
   | some x =>
    rw [hj] at g1;cases g1;have hl:=List.getElem?_eq_some_iff.1 hj;have hlt:j < L + 1:=by simpa using hl.1
    have hx:x = j:=by rw [← hl.2]; simp
    subst hx
    cases q with
    | zero=>simp [bC] at g2; exact ⟨rfl,hlt,g2.symm⟩
    | succ q=>simp [bC] at g2
  refine ⟨(List.range (L + 1)).map z,⟨by rw [hlen]; omega,fun x hx=>?_⟩,?_⟩
  ·obtain ⟨j,hj,rfl⟩:=List.mem_map.1 hx;have:=hz j (by simpa using hj);exact ⟨this.1,this.2.1⟩
  ·have:=RO.sl (w:=w) (S:=fun b=>b < w.heap.size) false 5 1 (((List.range (L + 1)).map z).map bC) b off c (fun j _=>.int .u8 (z j)) (fun r hr=>by obtain ⟨y,-,rfl⟩:=List.mem_map.1 hr; rfl) (by simpa using hc1) hc2 (a8 (hz 0 (by omega)).2.2) (a8 (hz 0 (by omega)).2.2) (fun j q cc hjq=>by
    obtain ⟨rfl,hj,rfl⟩:=hrow hjq
    rw [Nat.mul_one,Nat.add_zero]; exact (hz j hj).2.2) (fun j q cc hjq=>by
    obtain ⟨rfl,hj,rfl⟩:=hrow hjq
    exact .p _)
   rwa [List.length_map,hlen] at this
theorem Z2 {P:Program} {f:FuncId} (h:∀ a b,ki a → ki b → dr P f [.c (codeC a),.c (codeC b)] (fun r=>r = [.c (.p (.bool true))])) {v0 v1:Value} {L0 L1:Nat} {w:World} (h0:Ke w v0 L0) (h1:Ke w v1 L1):Calls P f #[v0,v1] w (tg w (.bool true)):=by
 obtain ⟨a,ha,ra⟩:=J0 h0;obtain ⟨b,hb,rb⟩:=J0 h1;have hc:=h a b ha hb;rw [qc (by simp [Arg.isIo])] at hc;refine (hc w #[v0,v1] (fun b=>b < w.heap.size) rfl (fun _ h=>h) fun i x hx=>?_).mono ?_
 ·match i with
  | 0=>cases hx; exact ⟨_,rfl,ra⟩
  | 1=>cases hx; exact ⟨_,rfl,rb⟩
  | i + 2=>simp at hx
 ·rintro e w' ⟨r,v,val,S,rfl,rfl,hr⟩;have hsv:RO w' S (.p (.bool true)) v:=hr.sv;rw [fp hsv];exact ⟨rfl,hr.below⟩
end Go.Proofs.YtfknckinfcicbaaGreat

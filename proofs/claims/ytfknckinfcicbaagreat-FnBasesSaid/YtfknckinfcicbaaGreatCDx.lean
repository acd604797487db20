/- Building aggregates, on data: the model's fill beside fillC. No program in sight. -/
import Derived.Test.YtfknckinfcicbaaGreatCJn4
import Derived.Laws.Tables
set_option linter.unusedSimpArgs false
set_option linter.unusedVariables false
namespace Go.Proofs.YtfknckinfcicbaaGreat
open Go Go.RowKit
def setC (xs:List C) (off:Nat):List C → List C
 | []=>xs
 | y :: ys=>setC (xs.set off y) (off + 1) ys
theorem zh:∀ (ys xs:List C) (off:Nat),(setC xs off ys).length = xs.length
 | [],_,_=>rfl
 | y :: ys,xs,off=>by unfold setC; rw [zh ys]; simp
def fillC (place:Nat → Option (Nat × Nat)) (cells:List C):List (Nat × List C) → Option (List C)
 | []=>some cells
 | (i,ys) :: rest=>match place i with
  | none=>none
  | some (off,size)=>if ys.length ≠ size ∨ cells.length < off + ys.length then none else fillC place (setC cells off ys) rest
section
variable {w:World} {S:Nat → Prop}
theorem ROs.set {xs:List C} {vs:Array Value} {y:C} {u:Value} (h:ROs w S xs vs) (hu:RO w S y u) (k:Nat):ROs w S (xs.set k y) (vs.setIfInBounds k u):=by
 refine ⟨by simpa using h.1,fun i x hx=>?_⟩;rw [List.getElem?_set] at hx;rw [Array.getElem?_setIfInBounds]
 by_cases hk:k = i
 ·subst hk;rw [if_pos rfl] at hx ⊢
  by_cases hl:k < xs.length
  ·rw [if_pos hl] at hx;cases hx;rw [if_pos (by rw [h.1]; exact hl)];exact ⟨u,rfl,hu⟩
  ·rw [if_neg hl] at hx; cases hx
 ·rw [if_neg hk] at hx ⊢;exact h.2 i x hx
theorem Jl {off:Nat}:∀ (us:List Value) (ys:List C) (k:Nat) (cells:Array Value) (xs:List C),ROs w S xs cells → us.length = ys.length → (∀ (i:Nat) (y:C),ys[i]? = some y → ∃ u,us[i]? = some u ∧ RO w S y u) → ROs w S (setC xs (off + k) ys) ((us.zipIdx k).foldl (fun cs (cj:Value × Nat)=>cs.setIfInBounds (off + cj.2) cj.1) cells)
 | [],[],_,_,_,h,_,_=>h
 | [],_ :: _,_,_,_,_,hl,_=>by simp at hl
 | _ :: _,[],_,_,_,_,hl,_=>by simp at hl
 | u :: us,y :: ys,k,cells,xs,h,hl,hr=>by
  obtain ⟨u',h1,h2⟩:=hr 0 y rfl;cases h1;rw [List.zipIdx_cons,List.foldl_cons];unfold setC;rw [Nat.add_assoc]
  exact Jl us ys (k + 1) _ _ (h.set h2 _) (by simpa using hl) fun i z hz=>by
   obtain ⟨u2,h3,h4⟩:=hr (i + 1) z (by simpa using hz);exact ⟨u2,by simpa using h3,h4⟩
theorem ru (place:Nat → Option (Nat × Nat)):∀ (ps:List (Nat × List C)) (vs:List (Nat × Value)) (cells:Array Value) (xs ys:List C),ROs w S xs cells → vs.length = ps.length → (∀ (i:Nat) (p:Nat × List C),ps[i]? = some p → ∃ v,vs[i]? = some (p.1,v) ∧ ROs w S p.2 v.cells) → fillC place xs ps = some ys → ∃ cs,Instr.fill place cells vs = some cs ∧ ROs w S ys cs
 | [],[],cells,xs,ys,h,_,_,hf=>by cases hf; exact ⟨cells,rfl,h⟩
 | [],_ :: _,_,_,_,_,hl,_,_=>by simp at hl
 | _ :: _,[],_,_,_,_,hl,_,_=>by simp at hl
 | (i,zs) :: ps,(i',v) :: vs,cells,xs,ys,h,hl,hr,hf=>by
  obtain ⟨v',h1,h2⟩:=hr 0 (i,zs) rfl;have h1:(i',v) = (i,v'):=by simpa using h1
  cases h1;unfold fillC at hf;unfold Instr.fill;split at hf
  ·cases hf
  ·rename_i off size hp
   rw [hp];split at hf
   ·cases hf
   ·rename_i hc
    dsimp only
    rw [if_neg (by
     have h20:v.cells.size = zs.length:=h2.1;have:=h.1;simp only [Bool.or_eq_true,decide_eq_true_eq]
     omega)]
    have h3:=Jl (off:=off) v.cells.toList zs 0 cells xs h (by have:=h2.1; simpa using this) fun j y hy=>by
     obtain ⟨u,h4,h5⟩:=h2.2 j y hy;exact ⟨u,by simpa using h4,h5⟩
    have h6:(v.cells.zipIdx.foldl (fun cs (x:Value × Nat)=>match x with | (c,j)=>cs.setIfInBounds (off + j) c) cells) = ((v.cells.toList.zipIdx 0).foldl (fun cs (cj:Value × Nat)=>cs.setIfInBounds (off + cj.2) cj.1) cells):=by
     rw [← Array.foldl_toList,Array.toList_zipIdx]
    rw [h6]
    exact ru place ps vs _ _ ys h3 (by simpa using hl) (fun j p hj=>by
     obtain ⟨v2,h7,h8⟩:=hr (j + 1) p (by simpa using hj)
     exact ⟨v2,by simpa using h7,h8⟩) hf
end
def partOf:AV → Option (List C)
 | .c x=>cellsOf false (.c x)
 | av=>cellsOf true av
def pb:List (Nat × Operand) → (List (Nat × List C) → Q) → Q
 | [],k=>k []
 | (i,x) :: ps,k=>opd x fun av=>match partOf av with
  | some ys=>pb ps fun rs=>k ((i,ys) :: rs)
  | none=>.fail
def placesOf (P:Program):List (Nat × TypeId) → Option (List (Nat × Nat))
 | []=>some []
 | (off,t) :: r=>match bp P t,placesOf P r with
  | some ti,some l=>some ((off,ti.size) :: l)
  | _,_=>none
def jx (P:Program) (nn:Nat) (d:Option Nat) (t:TypeId) (ps:List (Nat × Operand)):Q:=match bp P t with
 | none=>.fail
 | some ti=>match ti.fields with
  | []=>.fail
  | f :: fs=>match placesOf P (f :: fs) with
   | none=>.fail
   | some pl=>pb ps fun rs=>match fillC (fun i=>pl[i]?) (ti.zero.map C.p) rs with
    | some ys=>ig nn d (.agg ys)
    | none=>.fail
section
variable {P:Program} {nn:Nat} {o:Oper} {ct:Cts} {t:Option Stat} {e:Env} {K:Env → Prop} {w0:Base} {a:Act} {w:World} {val:Val} {S:Nat → Prop}
theorem yj (hs:StV w0 e a w val S):∀ (ps:List (Nat × Operand)) (k:List (Nat × List C) → Q),ah ct t (pb ps k) e K → ∃ rs,ah ct t (k rs) e K ∧ rs.length = ps.length ∧ ∀ (i:Nat) (p:Nat × List C),rs[i]? = some p → ∃ v,(ps.map fun p=>(p.1,a.eval p.2))[i]? = some (p.1,v) ∧ ROs w S p.2 v.cells
 | [],k,h=>⟨[],h,rfl,fun i p hp=>by simp at hp⟩
 | (i,x) :: ps,k,h=>by
  unfold pb at h;obtain ⟨av,h1,h2,-⟩:=de h hs;split at h1
  ·rename_i ys hys
   have h3:ROs w S ys (a.eval x).cells:=by
    unfold partOf at hys;split at hys
    ·exact (ia hys fun hp=>h2 hp 0).2.1
    ·exact (ia hys fun hp=>h2 hp 0).2.1
   obtain ⟨rs,h4,h5,h6⟩:=yj hs ps _ h1;refine ⟨(i,ys) :: rs,h4,by simp [h5],fun j p hp=>?_⟩
   cases j with
   | zero=>simp at hp; subst hp; exact ⟨_,rfl,h3⟩
   | succ j=>simpa using h6 j p (by simpa using hp)
  ·exact h1.elim
theorem q7:∀ (fs:List Field) (pl:List (Nat × Nat)),placesOf P (fs.map fun f=>(f.offset,f.type)) = some pl → fs.mapM (fun f=>(P.info? f.type).map fun i=>(f.offset,i.size)) = some pl
 | [],pl,h=>by cases h; rfl
 | f :: fs,pl,h=>by
  rw [List.map_cons] at h;unfold placesOf at h;split at h
  ·rename_i ti l h1 h2
   cases h;obtain ⟨i,u,z,hi,hu,hz,hsz,-⟩:=bl h1;rw [List.mapM_cons,q7 fs l h2,hi];simp [hsz]
  ·cases h
theorem J1 {ty:TypeId} {ps:Array (Nat × Operand)} (ho:o.op = .build ty ps):fh P nn o (jx P nn o.dst ty ps.toList):=by
 intro ct t e K w0 a w Qx _ hn hq ⟨val,S,hs⟩;unfold jx at hq;split at hq
 ·exact hq.elim
 ·rename_i ti hti
  split at hq
  ·exact hq.elim
  ·rename_i f fs hfs
   split at hq
   ·exact hq.elim
   ·rename_i pl hpl
    obtain ⟨i,u,z,hi,hu,hz,hsz,hby,hzz,hzs,hz1,hag,hel,hfi,hone,hpos⟩:=bl hti;obtain ⟨rs,h1,h2,h3⟩:=yj hs _ _ hq;split at h1
    ·rename_i ys hys
     have hz0:ROs w S (ti.zero.map C.p) z.cells:=by
      refine ⟨by rw [← hzz]; simp,fun j x hx=>?_⟩;rw [← hzz] at hx;simp only [List.getElem?_map,Array.getElem?_toList,Option.map_eq_some_iff] at hx;obtain ⟨u,h4,rfl⟩:=hx;exact ⟨u,h4,.p u⟩
     obtain ⟨cs,h4,h5⟩:=ru _ rs (ps.toList.map fun p=>(p.1,a.eval p.2)) z.cells _ ys hz0 (by simp [h2]) h3 hys;refine b0 h1 hn hs (Below.refl _ _) (v:=.agg cs) ?_ fun _=>⟨0,cs,rfl,h5⟩;unfold execOp;simp only [ho];rw [Sem.run_bind,run_build w ty (ps.map fun (i,x)=>(i,a.eval x)) cs ?_]
     ·rfl
     ·unfold Program.built;rw [hi,hu];cases u <;> simp only [ma] at hfi <;> try (rw [hfs] at hfi; cases hfi; done)
      rename_i fa
      dsimp only;have:=q7 fa.toList pl (by rw [hfi,hfs]; exact hpl);rw [hz,this];dsimp only;rw [Array.toList_map];simpa using h4
    ·exact h1.elim
end
end Go.Proofs.YtfknckinfcicbaaGreat

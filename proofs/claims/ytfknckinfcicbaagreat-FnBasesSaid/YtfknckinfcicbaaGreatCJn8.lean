/- Parts of the proof. -/
import Derived.Test.YtfknckinfcicbaaGreatCJn6
import Derived.Great.BuildSlice
set_option linter.unusedSimpArgs false
set_option linter.unusedVariables false
namespace Go.Proofs.YtfknckinfcicbaaGreat
section
open Go Go.RowKit
def chunk (k:Nat) (ys:List C):Nat → List (List C)
 | 0=>[]
 | n + 1=>ys.take k :: chunk k (ys.drop k) n
theorem zb (k:Nat):∀ (n:Nat) (ys:List C),(chunk k ys n).length = n
 | 0,_=>rfl
 | n + 1,ys=>by unfold chunk; rw [List.length_cons,zb k n]
theorem Fq (k:Nat):∀ (n:Nat) (ys:List C),ys.length = n * k → ∀ r ∈ chunk k ys n,r.length = k
 | 0,_,_,r,hr=>by unfold chunk at hr; simp at hr
 | n + 1,ys,h,r,hr=>by
  unfold chunk at hr;rw [Nat.add_mul,Nat.one_mul] at h
  rcases List.mem_cons.1 hr with rfl | hr
  ·rw [List.length_take]; omega
  ·exact Fq k n _ (by rw [List.length_drop]; omega) r hr
theorem Fr (k:Nat):∀ (n:Nat) (ys:List C),∀ r ∈ chunk k ys n,∀ c ∈ r,c ∈ ys
 | 0,_,r,hr,_,_=>by unfold chunk at hr; simp at hr
 | n + 1,ys,r,hr,c,hc=>by
  unfold chunk at hr
  rcases List.mem_cons.1 hr with rfl | hr
  ·exact List.mem_of_mem_take hc
  ·exact List.mem_of_mem_drop (Fr k n _ r hr c hc)
theorem Jy (k:Nat):∀ (n:Nat) (ys:List C),ys.length = n * k → ∀ j q c,cg (chunk k ys n) j q = some c → ys[j * k + q]? = some c
 | 0,_,_,j,q,c,h=>by simp [chunk,cg] at h
 | n + 1,ys,hl,j,q,c,h=>by
  rw [Nat.add_mul,Nat.one_mul] at hl;unfold chunk at h
  cases j with
  | zero =>
   have h1:(ys.take k)[q]? = some c:=by simpa [cg] using h
   rw [List.getElem?_take] at h1;split at h1
   ·rw [Nat.zero_mul,Nat.zero_add]; exact h1
   ·cases h1
  | succ j =>
   have h1:cg (chunk k (ys.drop k) n) j q = some c:=by simpa [cg] using h
   have h2:=Jy k n _ (by rw [List.length_drop]; omega) j q c h1;rw [List.getElem?_drop] at h2;rw [show (j + 1) * k + q = k + (j * k + q) by rw [Nat.add_mul,Nat.one_mul]; omega];exact h2
theorem Ei:∀ (ys xs pre:List C),xs.length = ys.length → setC (pre ++ xs) pre.length ys = pre ++ ys
 | [],xs,pre,h=>by have:xs = []:=List.eq_nil_of_length_eq_zero (by simpa using h); subst this; rfl
 | y :: ys,[],pre,h=>by simp at h
 | y :: ys,x :: xs,pre,h=>by
  unfold setC;have:=Ei ys xs (pre ++ [y]) (by simpa using h);have e:(pre ++ x :: xs).set pre.length y = pre ++ [y] ++ xs:=by simp
  rw [e];simpa using this
def zerosC (z:List Value):Nat → List C
 | 0=>[]
 | n + 1=>z.map C.p ++ zerosC z n
theorem lk (z:List Value):∀ n,(zerosC z n).length = n * z.length
 | 0=>by simp [zerosC]
 | n + 1=>by unfold zerosC; rw [List.length_append,List.length_map,lk z n,Nat.add_mul,Nat.one_mul,Nat.add_comm]
theorem D8 (z:List Value) (hz:0 < z.length):∀ n i,i < n * z.length → (zerosC z n)[i]? = (z[i % z.length]?).map C.p
 | 0,i,h=>by simp at h
 | n + 1,i,h=>by
  unfold zerosC;rw [Nat.add_mul,Nat.one_mul] at h
  by_cases hi:i < z.length
  ·rw [List.getElem?_append_left (by simpa using hi),List.getElem?_map,Nat.mod_eq_of_lt hi]
  ·rw [List.getElem?_append_right (by simpa using hi),List.length_map,D8 z hz n _ (by omega),← Nat.mod_eq_sub_mod (by omega)]
def fw (P:Program) (nn:Nat) (d:Option Nat) (ty:TypeId) (n:Nat) (ps:List (Nat × Operand)):Q:=match bp P ty with
 | none=>.fail
 | some ti=>match ti.elem with
  | none=>.fail
  | some el=>match bp P el with
   | none=>.fail
   | some te=>if n * te.size ≤ 16777216 then pb ps fun rs=>(match fillC (fun i=>some (i * te.size,te.size)) (zerosC te.zero n) rs with
    | some ys=>if ys.all C.flat = true then o5 nn d [] (.own false 1) (oneCon ⟨none,[.sl true el te.size (chunk te.size ys n)]⟩) else .fail
    | none=>.fail) else .fail
def ir (nn:Nat) (d:Option Nat) (el:TypeId) (te:TI) (av:AV):Q:=match d,av with
 | some dd,.ref s g p ag m=>if ag = te.agg ∧ m = te.size ∧ dd ≠ s ∧ dd < nn ∧ (ag = false → m = 1) then nx s g p m fun cs=>if cs.all C.one = true then (if cs.all C.flat = true then o5 nn (some dd) [] (.own false 1) (oneCon ⟨none,[.sl true el te.size [cs]]⟩)
  else .ups (.set dd (.own false 1) (oneCon ⟨none,[.sl true el te.size [List.replicate te.size .hole]]⟩) :: graftU s p dd [(0,0),(0,0)] 0 cs)) else .fail else .fail
 | _,_=>.fail
section
variable {P:Program} {nn:Nat} {o:Oper} {ct:Cts} {t:Option Stat} {e:Env} {K:Env → Prop} {w0:Base} {a:Act} {w:World} {val:Val} {S:Nat → Prop} {Qx:Exit → Act → World → Prop}
theorem Fg (place:Nat → Option (Nat × Nat)):∀ (ps:List (Nat × List C)) (xs ys:List C),fillC place xs ps = some ys → ys.length = xs.length
 | [],xs,ys,h=>by cases h; rfl
 | (i,zs) :: ps,xs,ys,h=>by
  unfold fillC at h;split at h
  ·cases h
  ·split at h
   ·cases h
   ·rw [Fg place ps _ _ h,zh]
theorem qf {w:World} {ty el:TypeId} {len:Nat} {parts:Array (Nat × Value)} {cells:Array Value} {ie:TypeInfo} {z:Value} (hu:P.underlying ty = some (.slice el)) (hie:P.info? el = some ie) (hz:ie.zero = some z) (hsmall:¬ len * ie.size > 2 ^ 24) (h0:len * ie.size = 0 → parts = #[] ∧ cells = #[])
 (h:Instr.fill (fun i=>some (i * ie.size,ie.size)) ((Array.range (len * ie.size)).map (z.cells[· % z.cells.size]!)) parts.toList = some cells) :
 (Instr.buildSlice ty len parts).run P w = .ok (.slice (some ⟨w.heap.size,0,none⟩) len len) (w.alloc (.cells cells el)):=by
 by_cases hp:len * ie.size = 0
 ·obtain ⟨rfl,rfl⟩:=h0 hp;have hr:Array.range 0 = #[]:=rfl;simp [Instr.buildSlice,run_underlying hu,sizeOf,typeInfo,hie,hp,Instr.fill,newRow,hr]
 ·exact run_buildSlice w ty el len parts cells ie z hu hie hz hsmall hp h
theorem ov {ty:TypeId} {n:Nat} {ps:Array (Nat × Operand)} (ho:o.op = .buildSlice ty n ps):fh P nn o (fw P nn o.dst ty n ps.toList):=by
 intro ct t e K w0 a w Qx _ hn hq ⟨val,S,hs⟩;unfold fw at hq;split at hq
 ·exact hq.elim
 ·rename_i ti hti
  split at hq
  ·exact hq.elim
  ·rename_i el hel0
   split at hq
   ·exact hq.elim
   ·rename_i te hte
    obtain ⟨i,u,z,hi,hu,hz,hsz,hby,hzz,hzs,hz1,hag,hel,hfi,hone,hpos⟩:=bl hti;obtain ⟨i2,u2,z2,hi2,hu2,hz2,hsz2,hby2,hzz2,hzs2,hz12,hag2,hel2,hfi2,hone2,hpos2⟩:=bl hte
    have hus:P.underlying ty = some (.slice el):=by
     rw [hu];rw [hel0] at hel;cases u <;> simp [ji] at hel;rw [hel]
    split at hq
    ·rename_i hsm
     obtain ⟨rs,h1,h2,h3⟩:=yj hs _ _ hq;split at h1
     ·rename_i ys hys
      split at h1
      ·rename_i hfl
       obtain ⟨d,hd,hdn,hK⟩:=fl h1;have hzl:te.zero.length = te.size:=by rw [← hzz2,Array.length_toList,hzs2,hsz2]
       have hz0:ROs w S (zerosC te.zero n) ((Array.range (n * i2.size)).map (z2.cells[· % z2.cells.size]!)):=by
        refine ⟨by simp [lk,hzl,hsz2],fun j x hx=>?_⟩
        have hj:j < n * te.size:=by
         have:=(List.getElem?_eq_some_iff.1 hx).1;rwa [lk,hzl] at this
        rw [D8 te.zero (by omega) n j (by rw [hzl]; exact hj)] at hx;have hm:j % z2.cells.size < z2.cells.size:=Nat.mod_lt _ (by omega);rw [← hzz2,Array.length_toList,Array.getElem?_toList,Array.getElem?_eq_getElem hm] at hx;cases hx;refine ⟨_,?_,.p _⟩;simp [hsz2,hj,hm]
       obtain ⟨cs,h4,h5⟩:=ru _ rs (ps.toList.map fun p=>(p.1,a.eval p.2)) _ _ ys hz0 (by simp [h2]) h3 hys;have hyl:ys.length = n * te.size:=by rw [Fg _ _ _ _ hys,lk,hzl]
       have hrun:(Instr.buildSlice ty n (ps.map fun (i,x)=>(i,a.eval x))).run P w = .ok (.slice (some ⟨w.heap.size,0,none⟩) n n) (w.alloc (.cells cs el)):=by
        refine qf hus hi2 hz2 (by rw [hsz2]; omega) (fun h0=>?_) ?_
        ·have hcs:cs = #[]:=Array.eq_empty_of_size_eq_zero (by rw [h5.1,hyl,← hsz2]; exact h0);refine ⟨?_,hcs⟩;rw [hsz2] at h0
         have hp0:rs = []:=by
          cases rs with
          | nil=>rfl
          | cons r rs =>
           obtain ⟨i0,zs⟩:=r;unfold fillC at hys;dsimp only at hys;have hz0l:(zerosC te.zero n).length = 0:=by rw [lk,hzl]; exact h0
           rw [if_pos (by rw [hz0l]; omega)] at hys;cases hys
         rw [hp0] at h2;have:ps.toList = []:=List.eq_nil_of_length_eq_zero (by simpa using h2.symm);have:ps = #[]:=by simpa using this
         rw [this]; simp
        ·rw [hsz2] at h4 ⊢;rw [Array.toList_map];simpa using h4
       obtain ⟨val',S',h7⟩:=hs.newSlice (d:=d) (t:=el) (k:=te.size) (cap:=n) (rows:=chunk te.size ys n) (cur:=cs) (by omega) hpos2 (Fq _ _ _ hyl) (fun r hr c hc=>List.all_eq_true.1 hfl c (Fr _ _ _ r hr c hc)) (by rw [zb]; exact Nat.le_refl _) (by
        unfold maxLen;have:n * 1 ≤ n * te.size:=Nat.mul_le_mul_left n hpos2
        omega) (by rw [h5.1,hyl]) fun j q c hjq=>h5.2 _ _ (Jy _ _ _ hyl j q c hjq)
       rw [zb] at h7;refine dm (v:=.slice (some ⟨w.heap.size,0,none⟩) n n) (w':=w.alloc (.cells cs el)) ?_ ⟨_,hK,val',S',?_⟩
       ·unfold execOp;simp only [ho,Sem.run_bind,hrun,Result.andThen_ok];rfl
       ·rw [hd]; exact h7
      ·exact h1.elim
     ·exact h1.elim
    ·exact hq.elim
theorem Ae {ty el:TypeId} {te ti:TI} {x:Operand} {av:AV} (ho:o.op = .buildSlice ty 1 #[(0,x)]) (hti:bp P ty = some ti) (hel0:ti.elem = some el) (hte:bp P el = some te)
 (hn:e.n = nn) (hs:StV w0 e a w val S) (h2:av.plain = true → ∀ s',SV e w val S s' av (a.eval x)) (h1:ah ct t (ir nn o.dst el te av) e K) (hsm:te.size ≤ 16777216):o.wp P a w (fun a' w'=>∃ e',K e' ∧ St w0 e' a' w') Qx:=by
 obtain ⟨i,u,z,hi,hu,hz,hsz,hby,hzz,hzs,hz1,hag,hel,hfi,hone,hpos⟩:=bl hti;obtain ⟨i2,u2,z2,hi2,hu2,hz2,hsz2,hby2,hzz2,hzs2,hz12,hag2,hel2,hfi2,hone2,hpos2⟩:=bl hte
 have hus:P.underlying ty = some (.slice el):=by
  rw [hu];rw [hel0] at hel;cases u <;> simp [ji] at hel;rw [hel]
 unfold ir at h1;split at h1
 ·rename_i d dd s g p ag m hdd
  split at h1
  ·rename_i hh
   obtain ⟨hagt,hm,hds,hdn,hag1⟩:=hh;obtain ⟨cs,h3,h4,h5⟩:=iy _ h1;obtain ⟨hpn,cn,hcn,hfr,hlk⟩:=jq (by omega) h4;split at h5
   ·rename_i hall
    obtain ⟨-,hv⟩:=h2 rfl 0;have hv:=hv fun i hi=>hfr i (by omega);have hno:∀ i c,cs[i]? = some c → NodeOk w S (val (s,0)) (a6 p i) c:=fun i c hc=>hs.mem.node _ _ _ _ hcn (hlk i c hc)
    have hvs:∃ vs:Array Value,(a.eval x).cells = vs ∧ vs.size = te.size ∧ ∀ i,i < te.size → vs[i]? = some (val (s,0) (a6 p i)):=by
     cases ag with
     | false =>
      obtain ⟨hm1,hv3⟩:=hv;have hc0:=List.getElem?_eq_getElem (show 0 < cs.length by omega);have hone2:=n6 (hno 0 _ hc0) (List.all_eq_true.1 hall _ (List.getElem_mem _));rw [b8] at hone2;refine ⟨#[val (s,0) p],by rw [hv3]; exact hone2.2,by simp; omega,fun i hi=>?_⟩;have:i = 0:=by omega
      subst this;rw [b8]; rfl
     | true =>
      obtain ⟨vs,hv3,hv4,hv5⟩:=hv;exact ⟨vs,by rw [hv3]; rfl,by omega,fun i hi=>hv5 i (by omega)⟩
    obtain ⟨vs,hvs1,hvs2,hvs3⟩:=hvs
    have hrun:(Instr.buildSlice ty 1 ((#[(0,x)]:Array (Nat × Operand)).map fun (i,x)=>(i,a.eval x))).run P w = .ok (.slice (some ⟨w.heap.size,0,none⟩) 1 1) (w.alloc (.cells vs el)):=by
     refine qf hus hi2 hz2 (by rw [hsz2]; omega) (fun h0=>by omega) ?_
     obtain ⟨cs',g1,g2⟩:=ru (w:=w) (S:=S) (fun i=>some (i * i2.size,i2.size)) [(0,vs.toList.map C.p)] [(0,a.eval x)] ((Array.range (1 * i2.size)).map (z2.cells[· % z2.cells.size]!)) (((Array.range (1 * i2.size)).map (z2.cells[· % z2.cells.size]!)).toList.map C.p) (vs.toList.map C.p)
      ⟨by simp,fun j y hy=>by
       simp only [List.getElem?_map,Array.getElem?_toList,Option.map_eq_some_iff] at hy;obtain ⟨q,hq,rfl⟩:=hy
       exact ⟨q,hq,.p q⟩⟩ rfl (fun j y hy=>by
       cases j with
       | succ j=>simp at hy
       | zero =>
        simp at hy;subst hy;refine ⟨_,rfl,by rw [hvs1]; simp,fun q z hz=>?_⟩;simp only [List.getElem?_map,Array.getElem?_toList,Option.map_eq_some_iff] at hz;obtain ⟨q2,hq,rfl⟩:=hz
        exact ⟨q2,by rw [hvs1]; exact hq,.p q2⟩) (by
       unfold fillC;dsimp only;rw [if_neg (by simp [hvs2,hsz2])];unfold fillC;rw [Nat.zero_mul]
       have:=Ei (vs.toList.map C.p) (((Array.range (1 * i2.size)).map (z2.cells[· % z2.cells.size]!)).toList.map C.p) [] (by simp [hvs2,hsz2])
       simpa using this)
     have hcv:cs' = vs:=by
      apply Array.ext_getElem?;intro j;have hsz':cs'.size = vs.size:=by have:=g2.1; simpa using this
      by_cases hj:j < vs.size
      ·obtain ⟨u,k1,k2⟩:=g2.2 j (.p vs[j]) (by simp [hj]);rw [k1,Array.getElem?_eq_getElem hj,fp k2]
      ·rw [Array.getElem?_eq_none (by omega),Array.getElem?_eq_none (by omega)]
     rw [← hcv];simpa using g1
    have hexec:(execOp a.eval o).run P w = .ok (.value (.slice (some ⟨w.heap.size,0,none⟩) 1 1)) (w.alloc (.cells vs el)):=by
     unfold execOp;simp only [ho,Sem.run_bind,hrun,Result.andThen_ok];rfl
    have hrc:∀ (r:List C) j q c,cg [r] j q = some c → j = 0 ∧ r[q]? = some c:=fun r j q c hh=>by
     obtain ⟨r',k1,k2⟩:=bi.1 hh
     cases j with
     | succ j=>simp at k1
     | zero=>simp at k1; subst k1; exact ⟨rfl,k2⟩
    split at h5
    ·rename_i hflat
     obtain ⟨d',hd,hdn',hK⟩:=fl h5;cases hd
     obtain ⟨val',S',h7,-⟩:=hs.newSliceV (d:=dd) (t:=el) (k:=te.size) (cap:=1) (rows:=[cs]) (cur:=vs) (by omega) hpos2 (fun r hr=>by simp at hr; subst hr; omega) (fun r hr c hc=>by simp at hr; subst hr; exact List.all_eq_true.1 hflat c hc) (by simp) (by unfold maxLen; omega) (by omega) fun j q c hjq=>by
      obtain ⟨rfl,hq⟩:=hrc _ _ _ _ hjq;have hql:q < te.size:=by have:=(List.getElem?_eq_some_iff.1 hq).1; omega
      refine ⟨_,by rw [Nat.zero_mul,Nat.zero_add]; exact hvs3 q hql,?_⟩;have h8:=hno q c hq;have h9:=List.all_eq_true.1 hflat c (List.mem_of_getElem? hq);have h10:=List.all_eq_true.1 hall c (List.mem_of_getElem? hq)
      cases c with
      | p v=>rw [show val (s,0) (a6 p q) = v from h8]; exact .p v
      | hole=>cases h10
      | sl own t2 k3 rows3 =>
       cases own with
       | true=>cases h9
       | false=>exact h8
     refine dm hexec ⟨_,hK,val',S',?_⟩;rw [hdd]; exact h7
    ·obtain ⟨val',S',h7,h8⟩:=hs.newSliceV (d:=dd) (t:=el) (k:=te.size) (cap:=1) (rows:=[List.replicate te.size .hole]) (cur:=vs) (by omega) hpos2 (fun r hr=>by simp at hr; subst hr; simp) (fun r hr c hc=>by simp at hr; subst hr; rw [List.eq_of_mem_replicate hc]; rfl) (by simp) (by unfold maxLen; omega) (by omega) fun j q c hjq=>by
      obtain ⟨rfl,hq⟩:=hrc _ _ _ _ hjq;have hql:q < te.size:=by have:=(List.getElem?_eq_some_iff.1 hq).1; simpa using this
      rw [List.getElem?_replicate,if_pos hql] at hq;cases hq;exact ⟨_,by rw [Nat.zero_mul,Nat.zero_add]; exact hvs3 q hql,.hole _⟩
     have hcd:(e.set dd (.own false 1) (oneCon ⟨none,[.sl true el te.size [List.replicate te.size .hole]]⟩)).con (dd,0) = some ⟨none,[.sl true el te.size [List.replicate te.size .hole]]⟩:=by simp [Env.set,oneCon]
     have hsl:=h7.mem.node (dd,0) _ [(0,0)] _ hcd (by rw [dv]; rfl);have hown:(a.put (some dd) (.slice (some ⟨w.heap.size,0,none⟩) 1 1)).tmps.getD dd undef = .slice (some ⟨w.heap.size,0,none⟩) 1 1:=by rw [o8 (by rw [hs.sz]; omega),if_pos rfl]
     have hslot:=h7.slot dd;have hss:(e.set dd (.own false 1) (oneCon ⟨none,[.sl true el te.size [List.replicate te.size .hole]]⟩)).s dd = .own false 1:=by simp [Env.set]
     rw [hss] at hslot;obtain ⟨-,-,hv0⟩:=hslot;have hv0':val' (dd,0) [(0,0)] = .slice (some ⟨w.heap.size,0,none⟩) 1 1:=hv0.symm.trans hown
     have hcell:∀ q,q < te.size → val' (dd,0) [(0,0),(0,q)] = val (s,0) (a6 p q):=fun q hq=>by
      obtain ⟨-,-,⟨hh,-⟩ | ⟨b,o,cap,cur,k1,k2,-,-,-,k3⟩⟩:=hsl
      ·cases hh
      ·rw [hv0'] at k1;simp only [Value.slice.injEq,Option.some.injEq,Addr.mk.injEq] at k1;obtain ⟨⟨rfl,rfl,-⟩,-⟩:=k1;rw [heap_alloc_new] at k2;cases k2;have:=k3 0 q .hole (by unfold cg; simp [hq]);simp only [Nat.zero_mul,Nat.zero_add] at this;rw [hvs3 q hq] at this;exact (Option.some.inj this).symm
     obtain ⟨val3,g3⟩:=l7 (s:=s) (r:=dd) (Ne.symm hds) (p1:=p) hpn (p2:=[(0,0)] ++ [(0,0)]) (by simp) cs 0 _ _ cn ⟨none,[.sl true el te.size [List.replicate te.size .hole]]⟩ h7 (by simp [Env.set,Ne.symm hds,hcn]) hcd fun m' c hm'=>by
      have hml:m' < te.size:=by have:=(List.getElem?_eq_some_iff.1 hm').1; omega
      rw [Nat.zero_add,c9,Nat.zero_add];refine ⟨hlk m' c hm',?_,?_⟩
      ·refine (gx (by simp)).2 ⟨el,te.size,[List.replicate te.size .hole],by rw [dv]; rfl,?_⟩;unfold cg;simp [hml]
      ·rw [h8 (s,0) (Ne.symm hds)];exact hcell m' hml
     refine dm hexec ⟨_,h5.2,val3,S',?_⟩;rw [hdd];show StV w0 (upds (graftU s p dd [(0,0),(0,0)] 0 cs) (e.set dd (.own false 1) (oneCon ⟨none,[.sl true el te.size [List.replicate te.size .hole]]⟩))) _ _ _ _;rw [j6];exact g3
   ·exact h5.elim
  ·exact h1.elim
 ·exact h1.elim
def Q6 (P:Program) (nn:Nat) (d:Option Nat) (ty:TypeId) (x:Operand):Q:=match bp P ty with
 | none=>.fail
 | some ti=>match ti.elem with
  | none=>.fail
  | some el=>match bp P el with
   | none=>.fail
   | some te=>opd x fun av=>match partOf av with
    | some _=>fw P nn d ty 1 [(0,x)]
    | none=>if te.size ≤ 16777216 then ir nn d el te av else .fail
def bsQ (P:Program) (nn:Nat) (d:Option Nat) (ty:TypeId) (n:Nat) (ps:List (Nat × Operand)):Q:=match n,ps with
 | 1,[(0,x)]=>Q6 P nn d ty x
 | n,ps=>fw P nn d ty n ps
theorem Vc {ty:TypeId} {n:Nat} {ps:Array (Nat × Operand)} (ho:o.op = .buildSlice ty n ps):fh P nn o (bsQ P nn o.dst ty n ps.toList):=by
 unfold bsQ;split
 ·rename_i x hps
  have hps:ps = #[(0,x)]:=by
   cases ps; simp only [Array.toList] at hps; rw [hps]
  subst hps;intro ct t e K w0 a w Qx hct hn hq ⟨val,S,hs⟩;unfold Q6 at hq;split at hq
  ·exact hq.elim
  ·rename_i ti hti
   split at hq
   ·exact hq.elim
   ·rename_i el hel0
    split at hq
    ·exact hq.elim
    ·rename_i te hte
     obtain ⟨av,h1,h2,-⟩:=de hq hs;split at h1
     ·exact ov ho ct t e K w0 a w Qx hct hn h1 ⟨val,S,hs⟩
     ·split at h1
      ·rename_i hsm
       exact Ae ho hti hel0 hte hn hs h2 h1 hsm
      ·exact h1.elim
 ·exact ov ho
end
end
section
open Go Go.RowKit
def jo {α:Type} (l:List α) (i j:Nat):List α:=(l.drop i).take (j - i)
theorem C7 {α:Type} {l:List α} {i j:Nat} (hij:i ≤ j) (hj:j ≤ l.length):(jo l i j).length = j - i:=by
 unfold jo; rw [List.length_take,List.length_drop]; omega
theorem Jv {α:Type} {l:List α} {i j:Nat} {x:α} (h:x ∈ jo l i j):x ∈ l:=List.mem_of_mem_drop (List.mem_of_mem_take h)
theorem wg {rows:List (List C)} {i j a q:Nat} {c:C} (h:cg (jo rows i j) a q = some c):cg rows (a + i) q = some c:=by
 unfold cg jo at *;rw [List.getElem?_take] at h;split at h
 ·rw [List.getElem?_drop,Nat.add_comm i a] at h; exact h
 ·cases h
def ry (k i j:Nat):Value → Value
 | .slice A _ cap=>.slice (if cap = i then A else A.map (·.add (i * k))) (j - i) (cap - i)
 | v=>v
def mz (val:Val) (d i:Nat) (v':Value):Val:=fun key path=>if key = (d,0) then (match path with
 | [(0,0)]=>v'
 | (0,0) :: (j,q) :: z=>val key ((0,0) :: (j + i,q) :: z)
 | p=>val key p) else val key path
section
variable {w0:Base} {e:Env} {a:Act} {w:World} {val:Val} {S:Nat → Prop}
theorem StV.cut (h:StV w0 e a w val S) {d t k i j:Nat} {rows:List (List C)} (hd:d < e.n) (hc:e.con (d,0) = some ⟨none,[.sl true t k rows]⟩) (hij:i ≤ j) (hj:j ≤ rows.length) :
 StV w0 (e.set d (.own false 1) (oneCon ⟨none,[.sl true t k (jo rows i j)]⟩)) (a.put (some d) (ry k i j (val (d,0) [(0,0)]))) w (mz val d i (ry k i j (val (d,0) [(0,0)]))) S:=by
 generalize hv':ry k i j (val (d,0) [(0,0)]) = v'
 have hl0:look [C.sl true t k rows] [(0,0)] = some (.sl true t k rows):=by rw [dv]; rfl
 obtain ⟨hk,hkr,hsl⟩:=h.mem.node (d,0) _ _ _ hc hl0;have hS:∀ b,S b → b < w.heap.size → w.heap[b]? = w.heap[b]?:=fun b _ _=>rfl;have hcon:∀ key:bh,key.1 ≠ d → (e.set d (.own false 1) (oneCon ⟨none,[.sl true t k (jo rows i j)]⟩)).con key = e.con key:=fun key hk=>by simp [Env.set,hk]
 have hcd:(e.set d (.own false 1) (oneCon ⟨none,[.sl true t k (jo rows i j)]⟩)).con (d,0) = some ⟨none,[.sl true t k (jo rows i j)]⟩:=by simp [Env.set,oneCon]
 have hcs:∀ n,n ≠ 0 → (e.set d (.own false 1) (oneCon ⟨none,[.sl true t k (jo rows i j)]⟩)).con (d,n) = none:=fun n hn=>by simp [Env.set,oneCon,hn]
 have hval:∀ key,key ≠ (d,0) → mz val d i v' key = val key:=fun key hk=>by funext p; unfold mz; rw [if_neg hk]
 have hv0:mz val d i v' (d,0) [(0,0)] = v':=by unfold mz; rw [if_pos rfl]; rfl
 have hvo:∀ a q z,mz val d i v' (d,0) ((0,0) :: (a,q) :: z) = val (d,0) ((0,0) :: (a + i,q) :: z):=fun a q z=>by unfold mz; rw [if_pos rfl]; rfl
 have hcase:∀ cn:Con,∀ key:bh,(e.set d (.own false 1) (oneCon ⟨none,[.sl true t k (jo rows i j)]⟩)).con key = some cn → (key = (d,0) ∧ cn = ⟨none,[.sl true t k (jo rows i j)]⟩) ∨ (key.1 ≠ d ∧ key ≠ (d,0) ∧ e.con key = some cn):=fun cn key hk=>by
  by_cases hkd:key.1 = d
  ·by_cases hk0:key = (d,0)
   ·subst hk0; rw [hcd] at hk; cases hk; exact .inl ⟨rfl,rfl⟩
   ·obtain ⟨x,y⟩:=key;simp only at hkd;subst hkd;rw [hcs y (fun hy=>hk0 (by rw [hy]))] at hk;cases hk
  ·rw [hcon key hkd] at hk; exact .inr ⟨hkd,fun hh=>hkd (by rw [hh]),hk⟩
 have hlk:∀ p c,look [C.sl true t k (jo rows i j)] p = some c → (p = [(0,0)] ∧ c = .sl true t k (jo rows i j)) ∨ (∃ a q z,p = (0,0) :: (a,q) :: z ∧ look [C.sl true t k rows] ((0,0) :: (a + i,q) :: z) = some c):=fun p c hp=>by
  match p with
  | []=>cases hp
  | (j0,q0) :: z =>
   unfold look at hp
   cases j0 with
   | succ j0=>simp at hp
   | zero =>
    cases q0 with
    | succ q0=>simp at hp
    | zero =>
     simp only [List.getElem?_cons_zero,Option.bind_some] at hp
     match z with
     | []=>rw [da] at hp; cases hp; exact .inl ⟨rfl,rfl⟩
     | (a,q) :: z =>
      rw [d7] at hp;refine .inr ⟨a,q,z,rfl,?_⟩
      cases hx:cg (jo rows i j) a q with
      | none=>rw [hx] at hp; cases hp
      | some c0 =>
       rw [hx] at hp;unfold look;simp only [List.getElem?_cons_zero,Option.bind_some];rw [d7,wg hx];exact hp
 have hvb:∀ b o n cap,v' = .slice (some ⟨b,o,none⟩) n cap → OwnB e.con val b (d,0) [(0,0)]:=fun b o n cap hh=>by
  rcases hsl with ⟨-,h0⟩ | ⟨b1,o1,cap1,cur,h0,-⟩
  ·rw [h0] at hv';rw [hh] at hv';simp only [ry,Value.slice.injEq] at hv';obtain ⟨h1,-⟩:=hv';split at h1 <;> cases h1
  ·rw [h0] at hv';rw [hh] at hv';simp only [ry,Value.slice.injEq] at hv';obtain ⟨h1,-⟩:=hv'
   have hb:b = b1:=by
    split at h1
    ·cases h1; rfl
    ·rw [Option.map_some,jn] at h1; cases h1; rfl
   subst hb;exact .inr ⟨_,t,k,rows,_,_,hc,hl0,_,h0⟩
 have hown:∀ b key p,OwnB (e.set d (.own false 1) (oneCon ⟨none,[.sl true t k (jo rows i j)]⟩)).con (mz val d i v') b key p →
  (key = (d,0) ∧ p = [(0,0)] ∧ OwnB e.con val b (d,0) [(0,0)]) ∨ (∃ a q z,key = (d,0) ∧ p = (0,0) :: (a,q) :: z ∧ OwnB e.con val b (d,0) ((0,0) :: (a + i,q) :: z)) ∨ (key ≠ (d,0) ∧ OwnB e.con val b key p):=fun b key p ho=>by
  obtain ⟨cn,hcn⟩:=ho.some
  rcases hcase cn key hcn with ⟨rfl,rfl⟩ | ⟨hk1,hk2,hk3⟩
  ·rcases ho with ⟨-,⟨t',xs',h1⟩,-⟩ | ⟨cn,t',k',rows',n',cap',h1,h2,o',h3⟩
   ·rw [hcd] at h1; cases h1
   ·rw [hcd] at h1;cases h1
    rcases hlk p _ h2 with ⟨rfl,-⟩ | ⟨a,q,z,rfl,h4⟩
    ·rw [hv0] at h3; exact .inl ⟨rfl,rfl,hvb b _ _ _ h3⟩
    ·rw [hvo] at h3; exact .inr (.inl ⟨a,q,z,rfl,rfl,.inr ⟨_,t',k',rows',n',cap',hc,h4,o',h3⟩⟩)
  ·exact .inr (.inr ⟨hk2,ho.con (hcon key hk1).symm (hval key hk2).symm⟩)
 refine ⟨?_,h.defers,⟨fun key cn p c h1 h2=>?_,fun key t' xs' h1=>?_,fun b key p key' p' h1 h2=>?_,fun b hb'=>⟨(h.mem.sep b hb').1,fun key p ho=>?_⟩⟩,fun s=>?_,h.frm,fun b key p ho=>?_,fun s hs=>?_,h.sS⟩
 ·simp [Act.put,Env.set,h.sz]
 ·rcases hcase cn key h1 with ⟨rfl,rfl⟩ | ⟨hk1,hk2,hk3⟩
  ·rcases hlk p c h2 with ⟨rfl,rfl⟩ | ⟨a,q,z,rfl,h4⟩
   ·refine ⟨hk,fun r hr=>hkr r (Jv hr),?_⟩;rw [hv0]
    rcases hsl with ⟨h00,h0⟩ | ⟨b,o,cap,cur,h0,g1,g2,g3,g4,g5⟩
    ·left;subst h00;rw [h0] at hv';simp at hj;subst hj;have:i = 0:=by omega
     subst this;exact ⟨rfl,by rw [← hv']; rfl⟩
    ·rw [h0] at hv';rw [C7 hij hj]
     by_cases hci:cap = i
     ·right;refine ⟨b,o,cap - i,cur,?_,g1,by omega,by omega,?_,fun a q c hac=>?_⟩
      ·rw [← hv']; simp only [ry,if_pos hci]
      ·have:(cap - i) * k ≤ cap * k:=Nat.mul_le_mul_right k (by omega);omega
      ·have:=we hac;rw [C7 hij hj] at this;omega
     ·right;refine ⟨b,o + i * k,cap - i,cur,?_,g1,by omega,by omega,?_,fun a q c hac=>?_⟩
      ·rw [← hv']; simp only [ry,if_neg hci,Option.map_some,jn]
      ·have:i * k + (cap - i) * k = cap * k:=by rw [← Nat.add_mul]; congr 1; omega
       omega
      ·have:=g5 _ _ _ (wg hac);show cur[o + i * k + (a * k + q)]? = some (mz val d i v' (d,0) ((0,0) :: (a,q) :: []));rw [hvo,show o + i * k + (a * k + q) = o + ((a + i) * k + q) by rw [Nat.add_mul]; omega];exact this
   ·have hno:=h.mem.node (d,0) _ _ _ hc h4;exact hno.reval (va:=fun p=>val (d,0) p) (va':=mz val d i v' (d,0)) fun z'=>hvo a q (z ++ z')
  ·rw [hval key hk2];exact h.mem.node key cn p c hk3 h2
 ·rcases hcase _ key h1 with ⟨rfl,h2⟩ | ⟨hk1,hk2,hk3⟩
  ·cases h2
  ·rw [hval key hk2]; exact h.mem.root key t' xs' hk3
 ·rcases hown b key p h1 with ⟨rfl,rfl,k1⟩ | ⟨a1,q1,z1,rfl,rfl,k1⟩ | ⟨n1,k1⟩ <;> rcases hown b key' p' h2 with ⟨rfl,rfl,k2⟩ | ⟨a2,q2,z2,rfl,rfl,k2⟩ | ⟨n2,k2⟩
  ·exact ⟨rfl,rfl⟩
  ·have:=(h.mem.inj b _ _ _ _ k1 k2).2; simp at this
  ·exact absurd (h.mem.inj b _ _ _ _ k1 k2).1.symm n2
  ·have:=(h.mem.inj b _ _ _ _ k1 k2).2; simp at this
  ·have:=(h.mem.inj b _ _ _ _ k1 k2).2;simp only [List.cons.injEq,Prod.mk.injEq,true_and] at this;obtain ⟨⟨g1,rfl⟩,rfl⟩:=this;obtain rfl:a1 = a2:=by omega
   exact ⟨rfl,rfl⟩
  ·exact absurd (h.mem.inj b _ _ _ _ k1 k2).1.symm n2
  ·exact absurd (h.mem.inj b _ _ _ _ k1 k2).1 n1
  ·exact absurd (h.mem.inj b _ _ _ _ k1 k2).1 n1
  ·exact h.mem.inj b _ _ _ _ k1 k2
 ·rcases hown b key p ho with ⟨rfl,rfl,k1⟩ | ⟨a1,q1,z1,rfl,rfl,k1⟩ | ⟨n1,k1⟩ <;> exact (h.mem.sep b hb').2 _ _ k1
 ·rw [o8 (by rw [h.sz]; exact hd)]
  by_cases hs:s = d
  ·subst hs;rw [if_pos rfl];have:(e.set s (.own false 1) (oneCon ⟨none,[.sl true t k (jo rows i j)]⟩)).s s = .own false 1:=by simp [Env.set]
   rw [this];show TVok w S _ _ (.own false 1) v';exact ⟨⟨_,hcd⟩,rfl,hv0.symm⟩
  ·rw [if_neg hs];have:(e.set d (.own false 1) (oneCon ⟨none,[.sl true t k (jo rows i j)]⟩)).s s = e.s s:=by simp [Env.set,hs]
   rw [this];have hne:∀ i,(s,i) ≠ (d,0):=fun i hh=>hs (by cases hh; rfl);refine (h.slot s).keep (fun _ h _=>h) hS (fun n=>hcon _ hs) (fun n j=>by rw [hval _ (hne n)]) (by rw [hval _ (hne 0)]) (im d _ _) (fun r g p hg' hf=>?_);obtain ⟨hr,hf⟩:=e8 hg' hf;exact ⟨hf,by rw [hval _ (fun hh=>hr (by cases hh; rfl))]⟩
 ·rcases hown b key p ho with ⟨rfl,rfl,k1⟩ | ⟨a1,q1,z1,rfl,rfl,k1⟩ | ⟨n1,k1⟩ <;> exact h.low _ _ _ k1
 ·have hsd:s ≠ d:=fun hh=>by have:e.n ≤ s:=hs; omega
  rw [hval _ (fun hh=>hsd (by cases hh; rfl))];exact h.rts s hs
end
def J3 (x:Option Operand) (k:Option Int → Q):Q:=match x with
 | none=>k none
 | some x=>opd x fun av=>Du av fun n=>k (some n)
def bndOk (l h:Option Int) (n:Nat):Prop:=0 ≤ l.getD 0 ∧ l.getD 0 ≤ h.getD n ∧ h.getD n ≤ (n:Int)
instance (l h:Option Int) (n:Nat):Decidable (bndOk l h n):=inferInstanceAs (Decidable (_ ∧ _ ∧ _))
def cutB {α:Type} (rows:List α) (l h:Option Int):List α:=jo rows (l.getD 0).toNat (h.getD rows.length).toNat
def ub (P:Program) (nn:Nat) (d:Option Nat) (s:TypeId) (x:Operand) (lo hi:Option Operand):Q:=match bp P s with
 | none=>.fail
 | some ti=>match ti.elem with
  | none=>.fail
  | some el=>match bp P el with
   | none=>.fail
   | some te=>opd x fun av=>J3 lo fun l=>J3 hi fun h=>match av with
    | .c (.sl _ t k rows)=>if k = te.size ∧ bndOk l h rows.length then ig nn d (.c (.sl false t k (cutB rows l h))) else .fail
    | .ref r g p ag m=>match d with
     | none=>.fail
     | some dd=>if ag = false ∧ m = 1 ∧ dd ≠ r then .sub r g p fun c=>(match c with
      | some (.sl true t k rows)=>if t = el ∧ k = te.size ∧ bndOk l h rows.length then o5 nn (some dd) (holesU r p 1 ++ [.set dd (.own false 1) (oneCon ⟨none,[.sl true el te.size rows]⟩)]) (.own false 1) (oneCon ⟨none,[.sl true el te.size (cutB rows l h)]⟩) else .fail
      | _=>.fail) else .fail
    | _=>.fail
def mmQ (nn:Nat) (d:Option Nat) (mx:Bool) (x y:Operand):Q:=opd x fun av=>opd y fun av2=>match av,av2 with
 | .c (.p (.int .i64 n)),.c (.p (.int .i64 m))=>ig nn d (.c (.p (.int .i64 (if mx then max n m else min n m))))
 | _,_=>.fail
section
variable {P:Program} {nn:Nat} {o:Oper} {ct:Cts} {t:Option Stat} {e:Env} {K:Env → Prop} {w0:Base} {a:Act} {w:World} {val:Val} {S:Nat → Prop} {Qx:Exit → Act → World → Prop}
theorem J2 {x:Option Operand} {k:Option Int → Q} (h:ah ct t (J3 x k) e K) (hs:StV w0 e a w val S):∃ n,ah ct t (k n) e K ∧ ((x.map a.eval = none ∧ n = none) ∨ ∃ kd m,x.map a.eval = some (.int kd m) ∧ n = some m):=by
 unfold J3 at h;split at h
 ·exact ⟨none,h,.inl ⟨rfl,rfl⟩⟩
 ·obtain ⟨av,h1,h2,-⟩:=de h hs;obtain ⟨kd,n,rfl,h3⟩:=w6 h1;exact ⟨some n,h3,.inr ⟨kd,n,by rw [Option.map_some,fp (h2 rfl 0)],rfl⟩⟩
theorem Eh {s el:TypeId} {ti te:TI} (hti:bp P s = some ti) (hel0:ti.elem = some el) (hte:bp P el = some te) {A:Option Addr} {len cap:Nat} {lo hi:Option Value} {l h:Option Int}
 (h1:(lo = none ∧ l = none) ∨ ∃ kd m,lo = some (.int kd m) ∧ l = some m) (h2:(hi = none ∧ h = none) ∨ ∃ kd m,hi = some (.int kd m) ∧ h = some m) (hb:bndOk l h len) (hlc:len ≤ cap) :
 (Instr.sliceAt s (.slice A len cap) lo hi none).run P w = .ok (ry te.size (l.getD 0).toNat (h.getD len).toNat (.slice A len cap)) w:=by
 obtain ⟨i,u,z,hi',hu,hz,hsz,hby,hzz,hzs,hz1,hag,hel,hfi,hone,hpos⟩:=bl hti;obtain ⟨i2,u2,z2,hi2,hu2,hz2,hsz2,-⟩:=bl hte
 have hus:P.underlying s = some (.slice el):=by
  rw [hu];rw [hel0] at hel;cases u <;> simp [ji] at hel;rw [hel]
 have hPe:P.elem s = el:=by simp [Program.elem,hus]
 have hus':P.underlying s = some (.slice (P.elem s)):=by rw [hPe]; exact hus
 have hso:(sizeOf (P.elem s)).run P w = .ok te.size w:=by rw [hPe]; simp [sizeOf,typeInfo,hi2,hsz2]
 obtain ⟨b1,b2,b3⟩:=hb;rw [run_sliceAt_slice w s _ _ _ _ hus']
 rcases h1 with ⟨rfl,rfl⟩ | ⟨kd,m,rfl,rfl⟩ <;> rcases h2 with ⟨rfl,rfl⟩ | ⟨kd2,m2,rfl,rfl⟩ <;> simp only [Option.getD_none,Option.getD_some] at b1 b2 b3 ⊢
 ·rw [run_slice_all w s A len cap hus',hso]; simp [Result.andThen,sliced,ry]
 ·rw [run_slice_h w s A len cap hus' _ _ (by omega) (by omega),hso]; simp [Result.andThen,sliced,ry]
 ·rw [run_slice_l w s A len cap hus' _ _ (by omega) (by omega),hso]; simp [Result.andThen,sliced,ry]
 ·rw [run_slice_lh w s A len cap hus' _ _ _ _ (by omega) (by omega) (by omega),hso]; simp [Result.andThen,sliced,ry]
theorem jbi {own:Bool} {t k i j:Nat} {rows:List (List C)} {v:Value} (h:RO w S (.sl own t k rows) v) (hij:i ≤ j) (hj:j ≤ rows.length):RO w S (.sl false t k (jo rows i j)) (ry k i j v):=by
 have hlen:=C7 hij hj
 cases h with
 | nil _ _ _ A cap hc =>
  have h0:j = 0:=by simpa using hj
  subst h0;obtain rfl:i = 0:=by omega
  exact .nil false t k _ _ (by omega)
 | sl _ _ _ _ b off cap us h1 h2 h3 h4 h5 h6 h7 =>
  by_cases h0:i = j
  ·subst h0;have:jo rows i i = []:=List.eq_nil_of_length_eq_zero (by rw [hlen]; omega)
   rw [this,show ry k i i (.slice (some ⟨b,off,none⟩) rows.length cap) = .slice (if cap = i then some ⟨b,off,none⟩ else (some ⟨b,off,none⟩:Option Addr).map (·.add (i * k))) 0 (cap - i) by simp [ry]]
   exact .nil false t k _ _ (by omega)
  ·rw [show ry k i j (.slice (some ⟨b,off,none⟩) rows.length cap) = .slice (some ⟨b,off + i * k,none⟩) (jo rows i j).length (cap - i) by
    simp only [ry,if_neg (show cap ≠ i by omega),Option.map_some,jn,hlen]]
   refine .sl false t k _ b (off + i * k) (cap - i) (fun a q=>us (a + i) q) (fun r hr=>h1 r (Jv hr)) (by omega) (by omega) h4 h5 (fun a q c hc=>?_) fun a q c hc=>h7 _ _ _ (wg hc);have:=h6 _ _ _ (wg hc);rwa [show off + (a + i) * k + q = off + i * k + a * k + q by rw [Nat.add_mul]; omega] at this
theorem bndOk.nat {l h:Option Int} {n:Nat} (hb:bndOk l h n):(l.getD 0).toNat ≤ (h.getD n).toNat ∧ (h.getD n).toNat ≤ n:=by
 obtain ⟨h1,h2,h3⟩:=hb; omega
theorem Ia {s:TypeId} {x:Operand} {lo hi:Option Operand} (ho:o.op = .slice s x lo hi none):fh P nn o (ub P nn o.dst s x lo hi):=by
 intro ct t e K w0 a w Qx _ hn hq ⟨val,S,hs⟩;unfold ub at hq
 have hex:∀ v' w',(Instr.sliceAt s (a.eval x) (lo.map a.eval) (hi.map a.eval) none).run P w = .ok v' w' → (execOp a.eval o).run P w = .ok (.value v') w':=fun v' w' hr=>by
  unfold execOp;simp [ho,hr,Result.andThen]
 split at hq
 ·exact hq.elim
 ·rename_i ti hti
  split at hq
  ·exact hq.elim
  ·rename_i el hel0
   split at hq
   ·exact hq.elim
   ·rename_i te hte
    obtain ⟨av,h1,h2,-⟩:=de hq hs;obtain ⟨l,h3,hl⟩:=J2 h1 hs;obtain ⟨h,h4,hh⟩:=J2 h3 hs;split at h4
    ·rename_i own t1 k rows
     split at h4
     ·rename_i hc
      obtain ⟨rfl,hb⟩:=hc;have hx:RO w S (.sl own t1 te.size rows) (a.eval x):=h2 rfl 0;obtain ⟨A,cap,hA,hlc,-⟩:=hx.shape;obtain ⟨n1,n2⟩:=hb.nat;have hr:=Eh (w:=w) hti hel0 hte hl hh (A:=A) (cap:=cap) hb hlc;rw [← hA] at hr;exact b0 h4 hn hs (Below.refl _ _) (hex _ _ hr) fun _=>⟨0,jbi hx n1 n2⟩
     ·exact h4.elim
    ·rename_i r g p ag m
     split at h4
     ·exact h4.elim
     ·rename_i dd hdd
      split at h4
      ·rename_i hc
       obtain ⟨rfl,rfl,hdr⟩:=hc;have h4:=h4.2;dsimp only at h4;split at h4
       ·rename_i c tt k rows hsub
        split at h4
        ·rename_i hc
         obtain ⟨rfl,rfl,hb⟩:=hc;obtain ⟨d,hd,hdn,hK⟩:=fl h4;cases hd;obtain ⟨n1,n2⟩:=hb.nat;obtain ⟨hf,cn,hcn,hlk⟩:=ls hsub;have hpn:=eh hlk
         have hx:=(h2 rfl 0).2 fun i hi=>by
          have:i = 0:=by omega
          subst this;rw [b8]; exact hf
         have hx:=hx.2
         have hs1:=hs.take (d:=dd) (cs:=[.sl true tt te.size rows]) (ag:=false) (v:=a.eval x) (g:=g) hpn hdr (by omega) hcn (fun i c hi=>by
          cases i with
          | zero=>cases hi; rw [b8]; exact hlk
          | succ i=>simp at hi) (fun i hi=>by
          have:i = 0:=by simpa using hi
          subst this
          rw [b8]; exact hf) (fun s=>h2 rfl s) (fun _=>rfl)
         have hcd:((e.holes r p 1).set dd (.own false 1) (oneCon ⟨none,[.sl true tt te.size rows]⟩)).con (dd,0) = some ⟨none,[.sl true tt te.size rows]⟩:=by simp [Env.set,oneCon]
         have hdn2:dd < ((e.holes r p 1).set dd (.own false 1) (oneCon ⟨none,[.sl true tt te.size rows]⟩)).n:=by show dd < (e.holes r p 1).n; rw [ms]; omega
         have hs2:=hs1.cut hdn2 hcd n1 n2
         have hv1:dx val r p dd (dd,0) [(0,0)] = a.eval x:=by
          unfold dx;rw [if_pos rfl];show val (r,0) (a6 p 0 ++ []) = _;rw [List.append_nil,b8,hx]
         rw [hv1] at hs2
         obtain ⟨A,cap,hA,hlc⟩:∃ A cap,a.eval x = .slice A rows.length cap ∧ rows.length ≤ cap:=by
          obtain ⟨-,-,h0⟩:=hs.mem.node _ _ _ _ hcn hlk;rw [hx]
          rcases h0 with ⟨rfl,h0⟩ | ⟨b,o2,cap,cur,h0,-,h5,-⟩
          ·exact ⟨_,_,h0,Nat.le_refl _⟩
          ·exact ⟨_,_,h0,h5⟩
         have hr:=Eh (w:=w) hti hel0 hte hl hh (A:=A) (cap:=cap) hb hlc;rw [← hA] at hr;refine dm (hex _ _ hr) ⟨_,hK,?_⟩;rw [hdd,← r9 (u:=a.eval x),fv,gh];exact ⟨_,_,hs2⟩
        ·exact h4.elim
       ·exact h4.elim
      ·exact h4.elim
    ·exact h4.elim
theorem I2 {x y:Operand} {ts:Array TypeId} {mx:Bool} (ho:o.op = .call { callee:=.builtin (if mx then .max else .min),args:=#[x,y],argTypes:=ts }):fh P nn o (mmQ nn o.dst mx x y):=by
 intro ct t e K w0 a w Qx _ hn hq ⟨val,S,hs⟩;unfold mmQ at hq;obtain ⟨av,h1,h2,-⟩:=de hq hs;obtain ⟨av2,h3,h4,-⟩:=de h1 hs;split at h3
 ·rename_i n m
  refine b0 h3 hn hs (Below.refl _ _) (w':=w) ?_ fun _=>⟨0,RO.p _⟩;have e1:a.eval x = .int .i64 n:=fp (h2 rfl 0);have e2:a.eval y = .int .i64 m:=fp (h4 rfl 0);unfold execOp
  cases mx with
  | true =>
   simp only [ho,if_true,resolve,invoke,builtin,Sem.run_bind,Sem.run_pure,Result.andThen_ok,List.map_toArray,List.map_cons,List.map_nil,e1,e2,run_max_int2,Result.andThen]
   congr 3
   split <;> omega
  | false =>
   simp only [ho,Bool.false_eq_true,if_false,resolve,invoke,builtin,Sem.run_bind,Sem.run_pure,Result.andThen_ok,List.map_toArray,List.map_cons,List.map_nil,e1,e2,run_min_int2,Result.andThen]
   congr 3
   split <;> omega
 ·exact h3.elim
end
end
section
open Go Go.RowKit
def Env.drops (e:Env) (s n:Nat):Env:={ e with con:=fun key=>if key.1 = s ∧ 1 ≤ key.2 ∧ key.2 ≤ n then none else e.con key }
def dropsU (s:Nat):Nat → List Upd
 | 0=>[]
 | n + 1=>dropsU s n ++ [.drop s n]
theorem Bi (s:Nat) (e:Env):∀ n,upds (dropsU s n) e = e.drops s n
 | 0=>by
  show e = _;unfold Env.drops;have:(fun key=>if key.1 = s ∧ 1 ≤ key.2 ∧ key.2 ≤ 0 then none else e.con key) = e.con:=by funext key; rw [if_neg (by omega)]
  rw [this]
 | n + 1=>by
  unfold dropsU;rw [fv,Bi s e n];show (e.drops s n).drop s n = _;unfold Env.drops Env.drop
  congr 1
  funext key;obtain ⟨k1,k2⟩:=key;dsimp only
  by_cases h:((k1,k2):bh) = (s,n + 1)
  ·cases h; rw [if_pos rfl,if_pos ⟨rfl,by omega,by omega⟩]
  ·rw [if_neg h]
   by_cases h2:k1 = s ∧ 1 ≤ k2 ∧ k2 ≤ n
   ·rw [if_pos h2,if_pos ⟨h2.1,h2.2.1,by omega⟩]
   ·rw [if_neg h2,if_neg];rintro ⟨rfl,h3,h4⟩
    rcases Nat.lt_or_ge k2 (n + 1) with h5 | h5
    ·exact h2 ⟨rfl,h3,by omega⟩
    ·exact h (by rw [show k2 = n + 1 by omega])
def t8 (s:Nat):Nat → (List (Option Con) → Q) → Q
 | 0,k=>k []
 | n + 1,k=>t8 s n fun l=>.tcon s n fun c=>k (l ++ [c])
def listCon (l:List (Option Con)):Nat → Option Con
 | 0=>none
 | i + 1=>(l[i]?).join
def mvQ (nn:Nat) (d:Option Nat) (x:Operand):Q:=match x with
 | .tmp s=>.slot s fun av=>match av with
  | .tup ts=>if d ≠ some s then t8 s ts.length fun l=>o5 nn d (dropsU s ts.length) (.tup ts) (listCon l) else .fail
  | av=>ig nn d av
 | x=>Cg nn d x
section
variable {P:Program} {nn:Nat} {o:Oper} {ct:Cts} {t:Option Stat} {e:Env} {K:Env → Prop} {w0:Base} {a:Act} {w:World} {val:Val} {S:Nat → Prop} {Qx:Exit → Act → World → Prop}
theorem Bl {s:Nat}:∀ (n:Nat) {k:List (Option Con) → Q},ah ct t (t8 s n k) e K → ∃ l,ah ct t (k l) e K ∧ l.length = n ∧ ∀ i,i < n → (l[i]?).join = e.con (s,i + 1)
 | 0,k,h=>⟨[],h,rfl,fun i hi=>absurd hi (by omega)⟩
 | n + 1,k,h=>by
  obtain ⟨l,h1,h2,h3⟩:=Bl n h;have h1:=h1.2;refine ⟨_,h1,by simp [h2],fun i hi=>?_⟩
  rcases Nat.lt_or_ge i n with h4 | h4
  ·rw [List.getElem?_append_left (by omega)]; exact h3 i h4
  ·have:i = n:=by omega
   subst this;rw [List.getElem?_append_right (by omega),h2,Nat.sub_self]; rfl
theorem StV.moveTup (h:StV w0 e a w val S) {s d:Nat} {ts:List TV} {l:List (Option Con)} (hd:d < e.n) (hsd:d ≠ s) (hts:e.s s = .tup ts) (hl:l.length = ts.length) (hlc:∀ i,i < ts.length → (l[i]?).join = e.con (s,i + 1)) :
 StV w0 ((e.drops s ts.length).set d (.tup ts) (listCon l)) (a.put (some d) (a.tmps.getD s undef)) w (fun key=>if key.1 = d then val (s,key.2) else val key) S:=by
 obtain ⟨nv,hnv⟩:∃ nv:Val,nv = fun key=>if key.1 = d then val (s,key.2) else val key:=⟨_,rfl⟩
 rw [← hnv];obtain ⟨E1,hE1⟩:∃ E1,E1 = (e.drops s ts.length).set d (.tup ts) (listCon l):=⟨_,rfl⟩;rw [← hE1]
 have hcon:∀ key cn',E1.con key = some cn' → (∃ i,i < ts.length ∧ key = (d,i + 1) ∧ e.con (s,i + 1) = some cn') ∨ (key.1 ≠ d ∧ ¬ (key.1 = s ∧ 1 ≤ key.2 ∧ key.2 ≤ ts.length) ∧ e.con key = some cn'):=fun key cn' hk=>by
  obtain ⟨k1,k2⟩:=key;rw [hE1] at hk;simp only [Env.set,Env.drops] at hk;split at hk
  ·rename_i h1
   subst h1
   cases k2 with
   | zero=>cases hk
   | succ i =>
    by_cases hi:i < ts.length
    ·have:=hlc i hi;rw [show listCon l (i + 1) = (l[i]?).join from rfl,this] at hk;exact .inl ⟨i,hi,rfl,hk⟩
    ·rw [show listCon l (i + 1) = (l[i]?).join from rfl,List.getElem?_eq_none (by omega)] at hk;cases hk
  ·rename_i h1
   split at hk
   ·cases hk
   ·rename_i h2; exact .inr ⟨h1,h2,hk⟩
 have hv0:∀ i,nv (d,i) = val (s,i):=fun i=>by rw [hnv]; simp
 have hvn:∀ key:bh,key.1 ≠ d → nv key = val key:=fun key hk=>by rw [hnv]; simp only [if_neg hk]
 have hown:∀ b key p,OwnB E1.con nv b key p → (∃ i,i < ts.length ∧ key = (d,i + 1) ∧ OwnB e.con val b (s,i + 1) p) ∨ (key.1 ≠ d ∧ ¬ (key.1 = s ∧ 1 ≤ key.2 ∧ key.2 ≤ ts.length) ∧ OwnB e.con val b key p):=fun b key p ho=>by
  obtain ⟨cn',hcn'⟩:=ho.some
  rcases hcon key cn' hcn' with ⟨i,hi,rfl,hc⟩ | ⟨k1,k2,k3⟩
  ·refine .inl ⟨i,hi,rfl,?_⟩
   rcases ho with ⟨h1,⟨t,xs,h2⟩,h3⟩ | ⟨cn2,t,k,rows,n,cap,h1,h2,h3⟩
   ·rw [hcn'] at h2;rw [hv0] at h3;exact .inl ⟨h1,⟨t,xs,hc.trans h2⟩,h3⟩
   ·rw [hcn'] at h1;rw [hv0] at h3;exact .inr ⟨cn2,t,k,rows,n,cap,hc.trans h1,h2,h3⟩
  ·exact .inr ⟨k1,k2,ho.con (by rw [k3,hcn']) (hvn key k1).symm⟩
 have hes:∀ x,E1.s x = if x = d then .tup ts else e.s x:=fun x=>by rw [hE1]; rfl
 refine ⟨by rw [hE1]; simp [Act.put,Env.set,Env.drops,h.sz],h.defers,⟨fun key cn' p c h1 h2=>?_,fun key t xs h1=>?_,fun b key p key' p' h1 h2=>?_,fun b hb=>⟨(h.mem.sep b hb).1,fun key p ho=>?_⟩⟩,fun x=>?_,h.frm,fun b key p ho=>?_,fun x hx=>?_,h.sS⟩
 ·rcases hcon key cn' h1 with ⟨i,hi,rfl,hc⟩ | ⟨k1,k2,k3⟩
  ·rw [hv0]; exact h.mem.node _ _ _ _ hc h2
  ·rw [hvn key k1]; exact h.mem.node _ _ _ _ k3 h2
 ·rcases hcon key _ h1 with ⟨i,hi,rfl,hc⟩ | ⟨k1,k2,k3⟩
  ·rw [hv0]; exact h.mem.root _ t xs hc
  ·rw [hvn key k1]; exact h.mem.root _ t xs k3
 ·rcases hown _ _ _ h1 with ⟨i,hi,rfl,h3⟩ | ⟨k1,k2,h3⟩ <;> rcases hown _ _ _ h2 with ⟨j,hj,rfl,h4⟩ | ⟨k3,k4,h4⟩
  ·have:=h.mem.inj _ _ _ _ _ h3 h4;refine ⟨?_,this.2⟩;have h5:=congrArg Prod.snd this.1;simp only at h5;rw [h5]
  ·have:=(h.mem.inj _ _ _ _ _ h3 h4).1;exact absurd (by rw [← this]; exact ⟨rfl,by simp,by simp; omega⟩) k4
  ·have:=(h.mem.inj _ _ _ _ _ h3 h4).1;exact absurd (by rw [this]; exact ⟨rfl,by simp,by simp; omega⟩) k2
  ·exact h.mem.inj _ _ _ _ _ h3 h4
 ·rcases hown _ _ _ ho with ⟨i,hi,rfl,h3⟩ | ⟨k1,k2,h3⟩
  ·exact (h.mem.sep b hb).2 _ _ h3
  ·exact (h.mem.sep b hb).2 _ _ h3
 ·rw [o8 (by rw [h.sz]; exact hd),hes];have hsv0:=h.slot s;rw [hts] at hsv0
  by_cases hx:x = d
  ·subst hx;rw [if_pos rfl,if_pos rfl];obtain ⟨vs,g1,g2,g3⟩:=hsv0;refine ⟨vs,g1,g2,fun m tv hm=>?_⟩;obtain ⟨u,g4,g5⟩:=g3 m tv hm;refine ⟨u,g4,?_⟩;have hml:m < ts.length:=(List.getElem?_eq_some_iff.1 hm).1
   have e2:E1.con (x,m + 1) = e.con (s,m + 1):=by
    rw [hE1];simp only [Env.set,if_pos];exact hlc m hml
   rw [e2,hv0]; exact g5
  ·rw [if_neg hx,if_neg hx];have hsv:=h.slot x;have hcx:∀ m,¬ (x = s ∧ 1 ≤ m ∧ m ≤ ts.length) → E1.con (x,m) = e.con (x,m):=fun m hm=>by rw [hE1]; simp only [Env.set,Env.drops,if_neg hx,if_neg hm]
   have hcn:∀ m,(x = s ∧ 1 ≤ m ∧ m ≤ ts.length) → E1.con (x,m) = none:=fun m hm=>by rw [hE1]; simp only [Env.set,Env.drops,if_neg hx,if_pos hm]
   have hvx:∀ m,nv (x,m) = val (x,m):=fun m=>hvn _ hx
   cases hav:e.s x with
   | tup ts' =>
    rw [hav] at hsv;obtain ⟨vs,g1,g2,g3⟩:=hsv;refine ⟨vs,g1,g2,fun m tv hm=>?_⟩;obtain ⟨u,g4,g5⟩:=g3 m tv hm;refine ⟨u,g4,?_⟩
    by_cases hmm:x = s ∧ 1 ≤ m + 1 ∧ m + 1 ≤ ts.length
    ·rw [hcn _ hmm]
     cases tv with
     | own ag' n'=>exact .inl ⟨rfl,_,_,rfl⟩
     | c y=>exact .inr (g5.resolve_left fun hh=>by obtain ⟨-,_,_,hh⟩:=hh; cases hh)
     | agg ys=>exact .inr (g5.resolve_left fun hh=>by obtain ⟨-,_,_,hh⟩:=hh; cases hh)
    ·rw [hcx _ hmm,hvx]; exact g5
   | _ =>
    have hxs:x ≠ s:=fun hh=>by rw [hh,hts] at hav; cases hav
    rw [← hav];refine hsv.keep (fun _ h _=>h) (fun _ _ _=>rfl) (fun m=>hcx m fun hh=>hxs hh.1) (fun m j=>by rw [hvx]) (by rw [hvx]) (fun r=>by rw [hE1]; exact im (e:=e.drops s ts.length) _ _ _ r) (fun r g p hg hf=>?_);rw [hE1] at hf;obtain ⟨k1,k2⟩:=e8 (e:=e.drops s ts.length) hg hf;exact ⟨k2,by rw [hvn (r,0) k1]⟩
 ·rcases hown _ _ _ ho with ⟨i,hi,rfl,h3⟩ | ⟨k1,k2,h3⟩
  ·exact h.low _ _ _ h3
  ·exact h.low _ _ _ h3
 ·have hx:e.n ≤ x:=by rw [hE1] at hx; exact hx
  rw [hvn (x,0) (fun he=>by have he:x = d:=he; omega)];exact h.rts x hx
theorem Th {x:Operand} (ho:o.op = .move x):fh P nn o (mvQ nn o.dst x):=by
 unfold mvQ;split
 ·rename_i s
  intro ct t e K w0 a w Qx hct hn hq ⟨val,S,hs⟩;have h1:=hq.2;dsimp only at h1;split at h1
  ·rename_i ts hv
   split at h1
   ·rename_i hds
    obtain ⟨l,h2,h3,h4⟩:=Bl _ h1;obtain ⟨d,hd,hdn,hK⟩:=fl h2
    have hes:e.s s = .tup ts:=by
     unfold Env.view at hv;split at hv <;> first | (cases hv; done) | exact hv
    rw [Bi] at hK;refine dm (v:=a.tmps.getD s undef) (w':=w) ?_ ⟨_,hK,(fun key=>if key.1 = d then val (s,key.2) else val key),S,?_⟩
    ·unfold execOp; rw [ho]; rfl
    ·rw [hd];exact hs.moveTup (by omega) (fun he=>hds (by rw [hd,he])) hes h3 h4
   ·exact h1.elim
  ·rename_i hne
   refine Cf (.inl ho) ct t e K w0 a w Qx hct hn ?_ ⟨val,S,hs⟩;unfold Cg;exact ⟨hq.1,h1⟩
 ·exact Cf (.inl ho)
end
end
section
open Go Go.RowKit
def Da (P:Program) (nn:Nat) (d:Option Nat) (t:TypeId) (x:Operand):Q:=match bp P t with
 | none=>.fail
 | some ti=>opd x fun av=>match cellsOf ti.agg av with
  | some xs=>o5 nn d [] .box (oneCon ⟨some t,xs⟩)
  | none=>match d with
   | none=>.fail
   | some d=>match av with
    | .ref s g p ag n=>if d < nn ∧ s ≠ d ∧ ag = ti.agg ∧ n = ti.size ∧ (ag = false → n = 1) then nx s g p n fun cs=>if cs.all C.one = true then .ups (.set d .box (oneCon ⟨some t,List.replicate n .hole⟩) :: graftU s p d [(0,0)] 0 cs) else .fail else .fail
    | _=>.fail
section
variable {P:Program} {nn:Nat} {o:Oper} {ct:Cts} {t:Option Stat} {e:Env} {K:Env → Prop} {w0:Base} {a:Act} {w:World} {val:Val} {S:Nat → Prop} {Qx:Exit → Act → World → Prop}
theorem Mk {ty:TypeId} {x:Operand} (ho:o.op = .box ty x):fh P nn o (Da P nn o.dst ty x):=by
 intro ct t e K w0 a w Qx _ hn hq ⟨val,S,hs⟩;unfold Da at hq;split at hq
 ·exact hq.elim
 ·rename_i ti hti
  obtain ⟨i,u,z,hi,hu,hz,hsz,hby,hzz,hzs,hz1,hag0,hel,hfi,hone0,hpos⟩:=bl hti
  have hrun:(execOp a.eval o).run P w = .ok (.value (.pointer (some ⟨w.heap.size,0,none⟩))) (w.alloc (.cells (a.eval x).cells ty)):=by
   unfold execOp;simp only [ho,Instr.box,Sem.run_bind,Result.andThen_ok,newVar,newRow,run_newObj,Sem.run_pure];rfl
  obtain ⟨av,h1,h2,-⟩:=de hq hs;split at h1
  ·rename_i xs hxs
   obtain ⟨h3,h4,-⟩:=ia hxs fun hp=>h2 hp 0;obtain ⟨d,hd,hdn,hK⟩:=fl h1;obtain ⟨val',S',h5,-⟩:=hs.newBox (t:=ty) (by omega:d < e.n) h3 h4;exact dm hrun ⟨_,hK,val',S',by rw [hd]; exact h5⟩
  ·split at h1
   ·exact h1.elim
   ·rename_i d hd
    split at h1
    ·rename_i s g p ag n hnone
     split at h1
     ·rename_i hh
      obtain ⟨hdn,hsd,rfl,rfl,hag1⟩:=hh;obtain ⟨cs,g5,g6,g7⟩:=iy _ h1;split at g7
      ·rename_i hall
       have hK:=g7.2;obtain ⟨hp2,cn2,k5,k6,k7⟩:=jq (by omega) g6;obtain ⟨-,hv2⟩:=h2 rfl 0;have hv2:=hv2 fun i hi=>k6 i (by omega)
       have hvs:∃ vs:Array Value,(a.eval x).cells = vs ∧ vs.size = ti.size ∧ ∀ i,i < ti.size → vs[i]? = some (val (s,0) (a6 p i)):=by
        cases hagv:ti.agg with
        | false =>
         rw [hagv] at hv2;obtain ⟨hn1,hv3⟩:=hv2
         have hone2:(a.eval x).oneCell' = true ∧ (a.eval x).cells = #[a.eval x]:=by
          have hc00:0 < cs.length:=by omega
          have hc0:=k7 0 cs[0] (List.getElem?_eq_getElem hc00);have hno:=hs.mem.node _ _ _ _ k5 hc0;rw [b8] at hno;rw [hv3];exact n6 hno (List.all_eq_true.1 hall _ (List.getElem_mem _))
         refine ⟨#[a.eval x],hone2.2,by simp; omega,fun i hi=>?_⟩;have:i = 0:=by omega
         subst this;rw [b8,← hv3]; rfl
        | true =>
         rw [hagv] at hv2;obtain ⟨vs,hv3,hv4,hv5⟩:=hv2;exact ⟨vs,by rw [hv3]; rfl,hv4,hv5⟩
       obtain ⟨vs,hvs1,hvs2,hvs3⟩:=hvs
       obtain ⟨val',S',k1,k2,k3⟩:=hs.newBox (t:=ty) (xs:=List.replicate ti.size .hole) (vs:=vs) (by omega:d < e.n) (fun y hy=>by rw [(List.mem_replicate.1 hy).2]; rfl) ⟨by simp [hvs2],fun i y hy=>by
        rw [List.getElem?_replicate] at hy;split at hy
        ·rename_i hi; cases hy; exact ⟨_,hvs3 i hi,.hole _⟩
        ·cases hy⟩
       have hc2:(e.set d .box (oneCon ⟨some ty,List.replicate ti.size .hole⟩)).con (d,0) = some ⟨some ty,List.replicate ti.size .hole⟩:=by simp [Env.set,oneCon]
       have hc1:(e.set d .box (oneCon ⟨some ty,List.replicate ti.size .hole⟩)).con (s,0) = some cn2:=by simp only [Env.set,if_neg hsd]; exact k5
       obtain ⟨val'',k4⟩:=l7 hsd hp2 (by simp:([(0,0)]:aj) ≠ []) cs 0 _ val' cn2 _ k1 hc1 hc2 fun m c hm=>by
        have hml:m < ti.size:=by have:=(List.getElem?_eq_some_iff.1 hm).1; omega
        rw [Nat.zero_add];refine ⟨k7 m c hm,by rw [sy,dv,List.getElem?_replicate,if_pos hml],?_⟩;rw [sy,k3,k2 (s,0) hsd,Array.getD_eq_getD_getElem?,hvs3 m hml]; rfl
       have hK2:upds (.set d .box (oneCon ⟨some ty,List.replicate ti.size .hole⟩) :: graftU s p d [(0,0)] 0 cs) e = (e.set d .box (oneCon ⟨some ty,List.replicate ti.size .hole⟩)).grafts s p d [(0,0)] 0 cs:=j6 s p d [(0,0)] cs 0 _;rw [hK2] at hK;rw [hvs1] at hrun;exact dm hrun ⟨_,hK,val'',S',by rw [hd]; exact k4⟩
      ·exact g7.elim
     ·exact h1.elim
    ·exact h1.elim
end
end
section
open Go Go.RowKit
abbrev CK:=C ⊕ Nat
def setG:List CK → Nat → List CK → List CK
 | xs,_,[]=>xs
 | xs,off,y :: ys=>setG (xs.set off y) (off + 1) ys
def fillG (place:Nat → Option (Nat × Nat)) (cells:List CK):List (Nat × List CK) → Option (List CK)
 | []=>some cells
 | (i,ys) :: rest=>match place i with
  | none=>none
  | some (off,size)=>if ys.length ≠ size ∨ cells.length < off + ys.length then none else fillG place (setG cells off ys) rest
def ckC (v:Nat → C):CK → C
 | .inl c=>c
 | .inr k=>v k
theorem Ig (v:Nat → C):∀ (ys xs:List CK) (off:Nat),(setG xs off ys).map (ckC v) = setC (xs.map (ckC v)) off (ys.map (ckC v))
 | [],_,_=>rfl
 | y :: ys,xs,off=>by
  unfold setG;rw [Ig v ys,List.map_cons,setC,List.map_set]
theorem Ff (v:Nat → C) {place:Nat → Option (Nat × Nat)}:∀ (ps:List (Nat × List CK)) (xs ys:List CK),fillG place xs ps = some ys → fillC place (xs.map (ckC v)) (ps.map fun p=>(p.1,p.2.map (ckC v))) = some (ys.map (ckC v))
 | [],xs,ys,h=>by cases h; rfl
 | (i,zs) :: ps,xs,ys,h=>by
  unfold fillG at h;rw [List.map_cons];unfold fillC;split at h
  ·cases h
  ·rename_i off size hp
   rw [hp];split at h
   ·cases h
   ·rename_i hc
    dsimp only;rw [if_neg (by simpa using hc),← Ig];exact Ff v ps _ _ h
def AV.refB:AV → Bool
 | .ref _ _ _ _ _=>true
 | _=>false
def mo:List (Nat × Operand) → Q → Q → Q
 | [],_,n=>n
 | (_,x) :: ps,y,n=>opd x fun av=>if av.refB = true then y else mo ps y n
def lb:Nat → List (Nat × Operand) → (List (Nat × List CK) → List (Option (Nat × aj × C)) → Q) → Q
 | _,[],k=>k [] []
 | n,(i,x) :: ps,k=>opd x fun av=>match av with
  | .ref r g p ag m=>if ag = false ∧ m = 1 then nx r g p 1 fun cs=>match cs with
   | [c]=>if c.one = true then lb (n + 1) ps fun rs ss=>k ((i,[.inr n]) :: rs) (some (r,p,c) :: ss) else .fail
   | _=>.fail else .fail
  | av=>match partOf av with
   | some ys=>lb (n + 1) ps fun rs ss=>k ((i,ys.map .inl) :: rs) (none :: ss)
   | none=>.fail
def C.roC:C → C
 | .sl _ t k rows=>.sl false t k rows
 | c=>c
def initC:CK → C
 | .inl c=>c.roC
 | .inr _=>.hole
def ownMoves (d:Nat) (ss:List (Option (Nat × aj × C))):Nat → List CK → List Upd
 | _,[]=>[]
 | j,.inl _ :: ys=>ownMoves d ss (j + 1) ys
 | j,.inr k :: ys=>match (ss[k]?).join with
  | some s=>.put s.1 s.2.1 .hole :: .put d [(0,j)] s.2.2 :: ownMoves d ss (j + 1) ys
  | none=>ownMoves d ss (j + 1) ys
def movedC (ss:List (Option (Nat × aj × C))):List C → Nat → List CK → List C
 | xs,_,[]=>xs
 | xs,j,.inl _ :: ys=>movedC ss xs (j + 1) ys
 | xs,j,.inr k :: ys=>match (ss[k]?).join with
  | some s=>movedC ss (puts xs s.2.2 [(0,j)]) (j + 1) ys
  | none=>movedC ss xs (j + 1) ys
def memN (x:Nat):List Nat → Bool
 | []=>false
 | y :: ys=>if x = y then true else memN x ys
def rootsB (d:Nat) (ss:List (Option (Nat × aj × C))):List Nat → List CK → Bool
 | _,[]=>true
 | l,.inl _ :: ys=>rootsB d ss l ys
 | l,.inr k :: ys=>match (ss[k]?).join with
  | some s=>if memN s.1 (d :: l) = true then false else rootsB d ss (s.1 :: l) ys
  | none=>false
def ib (P:Program) (nn:Nat) (d:Option Nat) (t:TypeId) (ps:List (Nat × Operand)):Q:=match bp P t with
 | none=>.fail
 | some ti=>match ti.fields with
  | []=>.fail
  | f :: fs=>match placesOf P (f :: fs) with
   | none=>.fail
   | some pl=>lb 0 ps fun rs ss=>match fillG (fun i=>pl[i]?) (ti.zero.map fun v=>.inl (.p v)) rs with
    | some ys=>match d with
     | some d=>if d < nn ∧ rootsB d ss [] ys = true then .ups (.set d (.own true ys.length) (oneCon ⟨none,ys.map initC⟩) :: (ownMoves d ss 0 ys ++ [.set d (.own true ys.length) (oneCon ⟨none,movedC ss (ys.map initC) 0 ys⟩)])) else .fail
     | none=>.fail
    | none=>.fail
def Mm (P:Program) (nn:Nat) (d:Option Nat) (t:TypeId) (ps:List (Nat × Operand)):Q:=mo ps (ib P nn d t ps) (jx P nn d t ps)
section
variable {P:Program} {nn:Nat} {o:Oper} {ct:Cts} {t:Option Stat} {e:Env} {K:Env → Prop} {w0:Base} {a:Act} {w:World} {val:Val} {S:Nat → Prop} {Qx:Exit → Act → World → Prop}
theorem Ci {x:Nat}:∀ {l:List Nat},memN x l = true ↔ x ∈ l
 | []=>by simp [memN]
 | y :: l=>by
  unfold memN
  by_cases h:x = y
  ·simp [h]
  ·rw [if_neg h,Ci]; simp [h]
theorem M6:∀ (us:List Upd) (e:Env),(upds us e).n = e.n
 | [],_=>rfl
 | u :: us,e=>by
  rw [upds,M6 us];cases u <;> rfl
theorem yn {d:Nat} {ss:List (Option (Nat × aj × C))}:∀ (ys:List CK) (j:Nat) (l:List Nat) (e:Env) (val:Val) (cnd:Con),StV w0 e a w val S → e.con (d,0) = some cnd → rootsB d ss l ys = true →
 (∀ (m k:Nat),ys[m]? = some (.inr k) → ∃ s cn,(ss[k]?).join = some s ∧ s.1 ≠ d ∧ e.con (s.1,0) = some cn ∧ look cn.xs s.2.1 = some s.2.2 ∧ look cnd.xs [(0,j + m)] = some .hole ∧ val (d,0) [(0,j + m)] = val (s.1,0) s.2.1) →
 ∃ val',StV w0 (upds (ownMoves d ss j ys) e) a w val' S ∧ (upds (ownMoves d ss j ys) e).con (d,0) = some { cnd with xs:=movedC ss cnd.xs j ys } ∧ (∀ i,i ≠ 0 → (upds (ownMoves d ss j ys) e).con (d,i) = e.con (d,i)) ∧ (upds (ownMoves d ss j ys) e).s = e.s
 | [],j,l,e,val,cnd,hs,hc,hr,h=>⟨val,hs,hc,fun _ _=>rfl,rfl⟩
 | .inl c :: ys,j,l,e,val,cnd,hs,hc,hr,h=>by
  refine yn ys (j + 1) l e val cnd hs hc hr fun m k hm=>?_;obtain ⟨s,cn,h1,h2,h3,h4,h5,h6⟩:=h (m + 1) k (by simpa using hm);rw [show j + (m + 1) = j + 1 + m by omega] at h5 h6;exact ⟨s,cn,h1,h2,h3,h4,h5,h6⟩
 | .inr k :: ys,j,l,e,val,cnd,hs,hc,hr,h=>by
  obtain ⟨s,cn,h1,h2,h3,h4,h5,h6⟩:=h 0 k rfl;obtain ⟨r,p,c⟩:=s;dsimp only at h2 h3 h4 h5 h6;rw [Nat.add_zero] at h5 h6;have hg:=hs.graft h2 h3 hc h4 h5 h6;unfold rootsB at hr;rw [h1] at hr;dsimp only at hr;split at hr
  ·cases hr
  ·rename_i hmem
   have hu:upds (ownMoves d ss j (.inr k :: ys)) e = upds (ownMoves d ss (j + 1) ys) ((e.put r p .hole).put d [(0,j)] c):=by
    rw [ownMoves,h1]; rfl
   have hmv:movedC ss cnd.xs j (.inr k :: ys) = movedC ss (puts cnd.xs c [(0,j)]) (j + 1) ys:=by
    rw [movedC,h1]
   rw [hu,hmv]
   have hroots:∀ (zs:List CK) (l:List Nat),rootsB d ss l zs = true → ∀ (m k':Nat),zs[m]? = some (.inr k') → ∀ s,(ss[k']?).join = some s → s.1 ∉ l:=by
    intro zs
    induction zs with
    | nil=>intro l _ m k' hm; simp at hm
    | cons z zs ih =>
     intro l hrl m k' hm s hsk hin
     cases z with
     | inl c =>
      cases m with
      | zero=>simp at hm
      | succ m=>exact ih l hrl m k' (by simpa using hm) s hsk hin
     | inr kk =>
      unfold rootsB at hrl;split at hrl
      ·rename_i s2 hs2
       split at hrl
       ·cases hrl
       ·rename_i hm2
        cases m with
        | zero =>
         have:kk = k':=by simpa using hm
         subst this;rw [hsk] at hs2;cases hs2;exact hm2 (Ci.2 (List.mem_cons_of_mem _ hin))
        | succ m=>exact ih _ hrl m k' (by simpa using hm) s hsk (List.mem_cons_of_mem _ hin)
      ·cases hrl
   have hfin:=yn ys (j + 1) (r :: l) _ _ { cnd with xs:=puts cnd.xs c [(0,j)] } hg (by simp [Env.put,Ne.symm h2,hc]) hr (fun m k' hm=>by
   obtain ⟨s',cn',k1,k2,k3,k4,k5,k6⟩:=h (m + 1) k' (by simpa using hm);rw [show j + (m + 1) = j + 1 + m by omega] at k5 k6;have hrr:s'.1 ≠ r:=fun he=>hroots ys (r :: l) hr m k' hm s' k1 (by rw [he]; exact List.mem_cons_self)
   have hap:¬ ([(0,j)]:aj) <+: [(0,j + 1 + m)]:=fun hp=>by
    have:=List.cons_prefix_cons.1 hp;have h7:=this.1;simp at h7;omega
   have hap2:¬ ([(0,j + 1 + m)]:aj) <+: [(0,j)]:=fun hp=>by
    have:=List.cons_prefix_cons.1 hp;have h7:=this.1;simp at h7;omega
   refine ⟨s',cn',k1,k2,by simp [Env.put,hrr,k2,k3],k4,by rw [gk hap hap2]; exact k5,?_⟩;unfold et;rw [if_neg fun hh=>hap hh.2,if_neg fun hh=>k2 (by simpa using hh.1)]
   exact k6)
   obtain ⟨val',f1,f2,f3,f4⟩:=hfin;exact ⟨val',f1,f2,fun i hi=>(f3 i hi).trans (by simp [Env.put,hi]),f4⟩
theorem uj (hs:StV w0 e a w val S):∀ (n:Nat) (ps:List (Nat × Operand)) (k:List (Nat × List CK) → List (Option (Nat × aj × C)) → Q),ah ct t (lb n ps k) e K → ∃ rs ss,ah ct t (k rs ss) e K ∧ rs.length = ps.length ∧ ss.length = ps.length ∧
 (∀ (v:Nat → C),(∀ (m:Nat) (s:Nat × aj × C),ss[m]? = some (some s) → ∀ cn,e.con (s.1,0) = some cn → look cn.xs s.2.1 = some s.2.2 → v (n + m) = .p (val (s.1,0) s.2.1)) → ∀ (i:Nat) (p:Nat × List CK),rs[i]? = some p → ∃ u,(ps.map fun p=>(p.1,a.eval p.2))[i]? = some (p.1,u) ∧ ROs w S (p.2.map (ckC v)) u.cells) ∧
 (∀ (i:Nat) (p:Nat × List CK),rs[i]? = some p → ∀ kk,.inr kk ∈ p.2 → ∃ m s cn,kk = n + m ∧ ss[m]? = some (some s) ∧ e.con (s.1,0) = some cn ∧ look cn.xs s.2.1 = some s.2.2)
 | n,[],k,h=>⟨[],[],h,rfl,rfl,fun v _ i p hp=>by simp at hp,fun i p hp=>by simp at hp⟩
 | n,(i,x) :: ps,k,h=>by
  unfold lb at h;obtain ⟨av,h1,h2,-⟩:=de h hs;split at h1
  ·rename_i r g p ag m
   split at h1
   ·rename_i hh
    obtain ⟨rfl,rfl⟩:=hh;obtain ⟨cs,g1,g2,g3⟩:=iy _ h1;split at g3
    ·rename_i c
     split at g3
     ·rename_i hone
      obtain ⟨hp2,cn2,k5,k6,k7⟩:=jq (by simp) g2;have hl2:=k7 0 c rfl;rw [b8] at hl2;obtain ⟨-,hv2⟩:=h2 rfl 0;obtain ⟨-,hv2⟩:=hv2 fun i hi=>k6 i (by simpa using hi);have hno:=hs.mem.node _ _ _ _ k5 hl2;obtain ⟨-,hcells⟩:=n6 hno hone;rw [← hv2] at hcells;obtain ⟨rs,ss,m1,m2,m3,m4,m5⟩:=uj hs (n + 1) ps _ g3;refine ⟨_,_,m1,by simp [m2],by simp [m3],fun v hv j q hq=>?_,fun j q hq kk hkk=>?_⟩
      ·cases j with
       | zero =>
        simp only [List.getElem?_cons_zero,Option.some.injEq] at hq;subst hq;refine ⟨a.eval x,rfl,?_⟩;have h8:=hv 0 (r,p,c) rfl cn2 k5 hl2;rw [Nat.add_zero] at h8;rw [hcells];refine ⟨by simp,fun q y hy=>?_⟩
        cases q with
        | zero =>
         simp only [List.map_cons,List.map_nil,List.getElem?_cons_zero,Option.some.injEq,ckC,h8] at hy;subst hy;exact ⟨_,rfl,by rw [← hv2]; exact .p _⟩
        | succ q=>simp at hy
       | succ j =>
        simp only [List.getElem?_cons_succ] at hq
        obtain ⟨u,u1,u2⟩:=m4 v (fun m s hm cn hc hl=>by
         have:=hv (m + 1) s (by simpa using hm) cn hc hl;rw [show n + (m + 1) = n + 1 + m by omega] at this
         exact this) j q hq
        exact ⟨u,by simpa using u1,u2⟩
      ·cases j with
       | zero =>
        simp only [List.getElem?_cons_zero,Option.some.injEq] at hq;subst hq;have:kk = n:=by simpa using hkk
        exact ⟨0,(r,p,c),cn2,by omega,rfl,k5,hl2⟩
       | succ j =>
        simp only [List.getElem?_cons_succ] at hq;obtain ⟨m,s,cn,q1,q2,q3⟩:=m5 j q hq kk hkk;exact ⟨m + 1,s,cn,by omega,by simpa using q2,q3⟩
     ·exact g3.elim
    ·exact g3.elim
   ·exact h1.elim
  ·split at h1
   ·rename_i ys hys
    have h3:ROs w S ys (a.eval x).cells:=by
     unfold partOf at hys;split at hys
     ·exact (ia hys fun hp=>h2 hp 0).2.1
     ·exact (ia hys fun hp=>h2 hp 0).2.1
    obtain ⟨rs,ss,m1,m2,m3,m4,m5⟩:=uj hs (n + 1) ps _ h1;refine ⟨_,_,m1,by simp [m2],by simp [m3],fun v hv j q hq=>?_,fun j q hq kk hkk=>?_⟩
    ·cases j with
     | zero =>
      simp only [List.getElem?_cons_zero,Option.some.injEq] at hq;subst hq;refine ⟨a.eval x,rfl,?_⟩;have:(ys.map Sum.inl).map (ckC v) = ys:=by simp [ckC,Function.comp_def]
      rw [this]; exact h3
     | succ j =>
      simp only [List.getElem?_cons_succ] at hq
      obtain ⟨u,u1,u2⟩:=m4 v (fun m s hm cn hc hl=>by
       have:=hv (m + 1) s (by simpa using hm) cn hc hl;rw [show n + (m + 1) = n + 1 + m by omega] at this
       exact this) j q hq
      exact ⟨u,by simpa using u1,u2⟩
    ·cases j with
     | zero =>
      simp only [List.getElem?_cons_zero,Option.some.injEq] at hq;subst hq;simp at hkk
     | succ j =>
      simp only [List.getElem?_cons_succ] at hq;obtain ⟨m,s,cn,q1,q2,q3⟩:=m5 j q hq kk hkk;exact ⟨m + 1,s,cn,by omega,by simpa using q2,q3⟩
   ·exact h1.elim
theorem StV.reset (h:StV w0 e a w val S) {d:Nat} {ag:Bool} {n:Nat} {cs:Nat → Option Con} (hd:d < e.n) (hs:e.s d = .own ag n) (hc:∀ i,e.con (d,i) = cs i):StV w0 (e.set d (.own ag n) cs) a w val S:=by
 have hcon:(e.set d (.own ag n) cs).con = e.con:=by
  funext key;obtain ⟨x,i⟩:=key;simp only [Env.set]
  by_cases hx:x = d
  ·subst hx; rw [if_pos rfl,hc]
  ·rw [if_neg hx]
 have hss:(e.set d (.own ag n) cs).s = e.s:=by
  funext x;simp only [Env.set]
  by_cases hx:x = d
  ·subst hx; rw [if_pos rfl,hs]
  ·rw [if_neg hx]
 have hgen:∀ x,e.gen x ≤ (e.set d (.own ag n) cs).gen x:=fun x=>by
  simp only [Env.set]
  by_cases hx:x = d
  ·subst hx; rw [if_pos rfl]; omega
  ·rw [if_neg hx]; exact Nat.le_refl _
 have hfr:∀ x g p,g ≤ e.gen x → (e.set d (.own ag n) cs).fresh x g p → e.fresh x g p:=fun x g p hg ⟨h1,h2⟩=>by
  simp only [Env.set] at h1 h2
  by_cases hx:x = d
  ·subst hx; rw [if_pos rfl] at h1; omega
  ·rw [if_neg hx] at h1 h2; exact ⟨h1,h2⟩
 exact {
  sz:=h.sz
  defers:=h.defers
  mem:=by rw [hcon]; exact h.mem
  slot:=fun x=>by
   have h1:=h.slot x;rw [hss]
   cases hav:e.s x with
   | dead=>trivial
   | c y=>rw [hav] at h1; exact h1
   | agg xs=>rw [hav] at h1; exact h1
   | own ag' n'=>rw [hav] at h1; unfold SV; rw [hcon]; exact h1
   | box=>rw [hav] at h1; unfold SV; rw [hcon]; exact h1
   | ref r g p ag' n'=>rw [hav] at h1; exact ⟨Nat.le_trans h1.1 (hgen r),fun h2=>h1.2 fun i hi=>hfr _ _ _ h1.1 (h2 i hi)⟩
   | ptr r g p k=>rw [hav] at h1; exact ⟨Nat.le_trans h1.1 (hgen r),fun h2=>h1.2 (hfr _ _ _ h1.1 h2)⟩
   | rp xs=>rw [hav] at h1; exact h1
   | fn g css=>rw [hav] at h1; exact h1
   | clo g rs =>
    rw [hav] at h1;obtain ⟨vs,k1,k2,k3⟩:=h1;exact ⟨vs,k1,k2,fun i r g' hi=>⟨Nat.le_trans (k3 i r g' hi).1 (hgen r),fun h2=>(k3 i r g' hi).2 (hfr _ _ _ (k3 i r g' hi).1 h2)⟩⟩
   | tup ts=>rw [hav] at h1; unfold SV; rw [hcon]; exact h1
  frm:=h.frm
  low:=by rw [hcon]; exact h.low
  rts:=h.rts
  sS:=h.sS }
theorem If {y:CK}:∀ (ys xs:List CK) (off:Nat),y ∈ setG xs off ys → y ∈ xs ∨ y ∈ ys
 | [],_,_,h=>.inl h
 | z :: ys,xs,off,h=>by
  unfold setG at h
  rcases If ys _ _ h with h | h
  ·rcases List.mem_or_eq_of_mem_set h with h | h
   ·exact .inl h
   ·exact .inr (by rw [h]; exact List.mem_cons_self)
  ·exact .inr (List.mem_cons_of_mem _ h)
theorem Fe {place:Nat → Option (Nat × Nat)} {y:CK}:∀ (ps:List (Nat × List CK)) (xs ys:List CK),fillG place xs ps = some ys → y ∈ ys → y ∈ xs ∨ ∃ p ∈ ps,y ∈ p.2
 | [],xs,ys,h,hy=>by cases h; exact .inl hy
 | (i,zs) :: ps,xs,ys,h,hy=>by
  unfold fillG at h;split at h
  ·cases h
  ·split at h
   ·cases h
   ·rcases Fe ps _ _ h hy with h1 | ⟨p,h1,h2⟩
    ·rcases If _ _ _ h1 with h1 | h1
     ·exact .inl h1
     ·exact .inr ⟨_,List.mem_cons_self,h1⟩
    ·exact .inr ⟨p,List.mem_cons_of_mem _ h1,h2⟩
theorem x9 {d:Nat} {ss:List (Option (Nat × aj × C))}:∀ (ys:List CK) (l:List Nat),rootsB d ss l ys = true → ∀ (m k:Nat),ys[m]? = some (.inr k) → ∃ s,(ss[k]?).join = some s ∧ s.1 ≠ d
 | [],_,_,m,k,h=>by simp at h
 | .inl c :: ys,l,hr,m,k,h=>by
  cases m with
  | zero=>simp at h
  | succ m=>exact x9 ys l hr m k (by simpa using h)
 | .inr kk :: ys,l,hr,m,k,h=>by
  unfold rootsB at hr;split at hr
  ·rename_i s hs
   split at hr
   ·cases hr
   ·rename_i hm
    cases m with
    | zero =>
     have:kk = k:=by simpa using h
     subst this;exact ⟨s,hs,fun he=>hm (Ci.2 (by rw [he]; exact List.mem_cons_self))⟩
    | succ m=>exact x9 ys _ hr m k (by simpa using h)
  ·cases hr
theorem E0 {ys:List CK} {p:aj} {c:C} (h:look (ys.map initC) p = some c):∃ (i:Nat) (y:CK),p = [(0,i)] ∧ ys[i]? = some y ∧ c = initC y:=by
 match p with
 | []=>cases h
 | (j + 1,i) :: z=>cases h
 | (0,i) :: z =>
  unfold look at h;simp only [List.getElem?_map] at h
  cases hx:ys[i]? with
  | none=>rw [hx] at h; cases h
  | some y =>
   rw [hx] at h;simp only [Option.map_some,Option.bind_some] at h
   cases z with
   | nil=>rw [da] at h; cases h; exact ⟨i,y,rfl,hx,rfl⟩
   | cons s z =>
    cases y with
    | inr k=>simp [initC,C.at] at h
    | inl c0=>cases c0 <;> simp [initC,C.roC,C.at] at h
theorem He {ty:TypeId} {ps:Array (Nat × Operand)} (ho:o.op = .build ty ps):fh P nn o (ib P nn o.dst ty ps.toList):=by
 intro ct t e K w0 a w Qx _ hn hq ⟨val,S,hs⟩;unfold ib at hq;split at hq
 ·exact hq.elim
 ·rename_i ti hti
  split at hq
  ·exact hq.elim
  ·rename_i f fs hfs
   split at hq
   ·exact hq.elim
   ·rename_i pl hpl
    obtain ⟨i,u,z,hi,hu,hz,hsz,hby,hzz,hzs,hz1,hag,hel,hfi,hone,hpos⟩:=bl hti;obtain ⟨rs,ss,h1,h2,h3,h4,h5⟩:=uj hs 0 _ _ hq;split at h1
    ·rename_i ys hys
     split at h1
     ·rename_i d hd
      split at h1
      ·rename_i hh
       obtain ⟨hdn,hrb⟩:=hh
       obtain ⟨v,hv⟩:∃ v:Nat → C,v = fun m=>match (ss[m]?).join with
        | some s=>.p (val (s.1,0) s.2.1)
        | none=>.hole:=⟨_,rfl⟩
       have hz0:ROs w S (ti.zero.map C.p) z.cells:=by
        refine ⟨by rw [← hzz]; simp,fun j x hx=>?_⟩;rw [← hzz] at hx;simp only [List.getElem?_map,Array.getElem?_toList,Option.map_eq_some_iff] at hx;obtain ⟨u,h4,rfl⟩:=hx;exact ⟨u,h4,.p u⟩
       have hfill:=Ff v rs _ ys hys;rw [List.map_map,show (ckC v ∘ fun v=>(Sum.inl (C.p v):CK)) = C.p from rfl] at hfill
       obtain ⟨cs,k4,k5⟩:=ru _ (rs.map fun p=>(p.1,p.2.map (ckC v))) (ps.toList.map fun p=>(p.1,a.eval p.2)) z.cells _ (ys.map (ckC v)) hz0 (by simp [h2]) (fun j p hp=>by
        rw [List.getElem?_map,Option.map_eq_some_iff] at hp;obtain ⟨q,q1,rfl⟩:=hp
        exact h4 v (fun m s hm cn _ _=>by rw [hv]; simp only [Nat.zero_add,hm,Option.join_some]) j q q1) hfill
       have hcl:cs.size = ys.length:=by have:=k5.1; simpa using this
       have hrun:(execOp a.eval o).run P w = .ok (.value (.agg cs)) w:=by
        unfold execOp;simp only [ho];rw [Sem.run_bind,run_build w ty (ps.map fun (i,x)=>(i,a.eval x)) cs ?_]
        ·rfl
        ·unfold Program.built;rw [hi,hu];cases u <;> simp only [ma] at hfi <;> try (rw [hfs] at hfi; cases hfi; done)
         rename_i fa
         dsimp only;have:=q7 fa.toList pl (by rw [hfi,hfs]; exact hpl);rw [hz,this];dsimp only;rw [Array.toList_map];simpa using k4
       obtain ⟨val2,hval2⟩:∃ val2:Val,val2 = fun _ q=>match q with
        | [(0,j)]=>cs.getD j undef
        | _=>undef:=⟨_,rfl⟩
       have hv2:∀ key j,val2 key [(0,j)] = cs.getD j undef:=fun key j=>by subst hval2; rfl
       have hcon:∀ key cn,resCon [.own true (ys.map initC)] key = some cn → cn = ⟨none,ys.map initC⟩:=fun key cn h=>by
        unfold resCon at h;split at h
        ·simp only at h;split at h
         ·simp only [RV.con,Option.some.injEq] at h; exact h.symm
         ·cases h
        ·cases h
       have hnoown:∀ b key p,¬ OwnB (resCon [.own true (ys.map initC)]) val2 b key p:=fun b key p ho=>by
        rcases ho with ⟨-,⟨t',xs,h6⟩,-⟩ | ⟨cn,t',k,rows,n,cap,h6,h7,-⟩
        ·have:=hcon _ _ h6; cases this
        ·have:=hcon _ _ h6;subst this;obtain ⟨i',y,-,-,h8⟩:=E0 h7
         cases y with
         | inr k=>simp [initC] at h8
         | inl c0=>cases c0 <;> simp [initC,C.roC] at h8
       have hat:∀ (m:Nat) (y:CK),ys[m]? = some y → RO w S (ckC v y) (cs.getD m undef):=fun m y hm=>by
        obtain ⟨u',u1,u2⟩:=k5.2 m (ckC v y) (by rw [List.getElem?_map,hm]; rfl);rw [Array.getD_eq_getD_getElem?,u1]; exact u2
       have hret:Mq w w S [.own true (ys.map initC)] (.agg cs) val2 S:=by
        refine ⟨Below.refl _ _,⟨fun key cn p c h6 h7=>?_,fun key t' xs h6=>?_,fun b key p key' p' h6 _=>(hnoown b key p h6).elim,fun b hb=>⟨(hs.mem.sep b hb).1,fun key p=>hnoown b key p⟩⟩,fun b key p h6=>(hnoown b key p h6).elim,fun b hb=>.inr hb,?_⟩
        ·have:=hcon _ _ h6;subst this;obtain ⟨m,y,rfl,h8,rfl⟩:=E0 h7;have h9:=hat m y h8
         cases y with
         | inr k=>trivial
         | inl c0 =>
          cases c0 with
          | p v0=>show val2 key [(0,m)] = v0; rw [hv2]; exact fp h9
          | hole=>trivial
          | sl o' t' k' rows'=>show RO w S _ (val2 key [(0,m)]); rw [hv2]; exact RO.flag h9
        ·have:=hcon _ _ h6; cases this
        ·refine ⟨ys.map initC,cs,by simp [resCon,RV.con],by simp,rfl,by simp [hcl],fun j hj=>?_⟩;have hj':j < cs.size:=by rw [hcl]; simpa using hj
         rw [hv2,Array.getD_eq_getD_getElem?,Array.getElem?_eq_getElem hj']; rfl
       have hst:=hs.ret (d:=d) (by omega) hret
       have hE:(e.set d (resAV [.own true (ys.map initC)]) fun i=>resCon [.own true (ys.map initC)] (0,i)) = e.set d (.own true ys.length) (oneCon ⟨none,ys.map initC⟩):=by
        have hE1:resAV [RV.own true (ys.map initC)] = .own true ys.length:=by simp [resAV,RV.tv,TV.av]
        have hE2:(fun i=>resCon [RV.own true (ys.map initC)] (0,i)) = oneCon ⟨none,ys.map initC⟩:=by
         funext i'
         by_cases hi':i' = 0 <;> simp [resCon,oneCon,RV.con,hi']
        rw [hE1,hE2]
       rw [hE] at hst
       obtain ⟨val',hst',hf1,hf2,hf3⟩:=yn (ss:=ss) ys 0 [] _ _ ⟨none,ys.map initC⟩ hst (by simp [Env.set,oneCon]) hrb fun m k hm=>by
        obtain ⟨s,hs1,hs2⟩:=x9 ys [] hrb m k hm;have hmem:(.inr k:CK) ∈ ys:=List.mem_of_getElem? hm
        rcases Fe _ _ _ hys hmem with hx | ⟨p,hp1,hp2⟩
        ·obtain ⟨v',-,hx⟩:=List.mem_map.1 hx;cases hx
        ·obtain ⟨j,hj⟩:=List.getElem?_of_mem hp1;obtain ⟨m',s',cn,q1,q2,q3,q4⟩:=h5 j p hj k hp2;have:m' = k:=by omega
         subst this;rw [q2] at hs1;cases hs1;refine ⟨s,cn,by rw [q2]; rfl,hs2,by simp only [Env.set,if_neg hs2]; exact q3,q4,?_,?_⟩
         ·rw [dv,List.getElem?_map,Nat.zero_add,hm]; rfl
         ·have h9:=hat m _ hm;have h10:v m' = .p (val (s.1,0) s.2.1):=by rw [hv]; simp only [q2,Option.join_some]
          simp only [ckC,h10] at h9;have h11:=fp h9;simp only [dt,if_true,if_neg hs2,Nat.zero_add,hv2];exact h11
       have hst2:=hst'.reset (d:=d) (ag:=true) (n:=ys.length) (cs:=oneCon ⟨none,movedC ss (ys.map initC) 0 ys⟩) (by rw [M6]; show d < e.n; omega) (by rw [hf3]; simp [Env.set]) fun i=>by
        by_cases hi:i = 0
        ·subst hi; rw [hf1]; rfl
        ·rw [hf2 i hi]; simp [Env.set,oneCon,hi]
       have hup:upds (.set d (.own true ys.length) (oneCon ⟨none,ys.map initC⟩) :: (ownMoves d ss 0 ys ++ [.set d (.own true ys.length) (oneCon ⟨none,movedC ss (ys.map initC) 0 ys⟩)])) e = (upds (ownMoves d ss 0 ys) (e.set d (.own true ys.length) (oneCon ⟨none,ys.map initC⟩))).set d (.own true ys.length) (oneCon ⟨none,movedC ss (ys.map initC) 0 ys⟩):=by
        rw [upds,i9]; rfl
       have hK:=h1.2;rw [hup] at hK;exact dm hrun ⟨_,hK,val',fun b=>S b ∨ S b,by rw [hd]; exact hst2⟩
      ·exact h1.elim
     ·exact h1.elim
    ·exact h1.elim
theorem Q9 {ty:TypeId} {ps:Array (Nat × Operand)} (ho:o.op = .build ty ps):fh P nn o (Mm P nn o.dst ty ps.toList):=by
 intro ct t e K w0 a w Qx hct hn hq hst;unfold Mm at hq
 have key:∀ (l:List (Nat × Operand)),ah ct t (mo l (ib P nn o.dst ty ps.toList) (jx P nn o.dst ty ps.toList)) e K → ah ct t (ib P nn o.dst ty ps.toList) e K ∨ ah ct t (jx P nn o.dst ty ps.toList) e K:=by
  intro l
  induction l with
  | nil=>exact fun h=>.inr h
  | cons x l ih =>
   intro h;unfold mo at h;obtain ⟨val,S,hs⟩:=hst;obtain ⟨av,h1,-,-⟩:=de h hs;split at h1
   ·exact .inl h1
   ·exact ih h1
 rcases key _ hq with h | h
 ·exact He ho ct t e K w0 a w Qx hct hn h hst
 ·exact J1 ho ct t e K w0 a w Qx hct hn h hst
end
end
section
open Go Go.RowKit
def opQ (P:Program) (nn:Nat) (o:Oper):Q:=match o.op with
 | .move x=>mvQ nn o.dst x
 | .assign x=>ta nn o.dst x
 | .pick c x y=>Ep nn o.dst c x y
 | .alloc t=>vp P nn o.dst t
 | .box t x=>Da P nn o.dst t x
 | .load t x=>Cl P nn o.dst t x
 | .store t x v=>ua P o.dst t x v
 | .binOp op ty x y _=>Rb P nn o.dst op ty x y
 | .unOp op _ x=>unQ nn o.dst op x
 | .fieldAddr s x f=>iu P nn o.dst s x f
 | .indexAddr s x i=>it P nn o.dst s x i
 | .makeSlice t l c=>Ck P nn o.dst t l c
 | .extract x i=>l9 nn o.dst x i
 | .build t ps=>Mm P nn o.dst t ps.toList
 | .call ⟨.value (.func f),args,_⟩=>kh P nn o.dst f args.toList
 | .call ⟨.builtin .len,⟨[x]⟩,⟨[s]⟩⟩=>Qk P nn o.dst s x
 | .call ⟨.value (.tmp s),args,_⟩=>sr P nn o.dst s args.toList
 | .makeFunc (.func g) ⟨[]⟩ caps=>Ch nn o.dst g caps.toList
 | .buildSlice t n ps=>bsQ P nn o.dst t n ps.toList
 | .call ⟨.builtin .append,⟨[x,y]⟩,⟨[s,s']⟩⟩=>if s = s' then py P nn o.dst s x y else .fail
 | .slice s x lo hi none=>ub P nn o.dst s x lo hi
 | .call ⟨.builtin .min,⟨[x,y]⟩,_⟩=>mmQ nn o.dst false x y
 | .call ⟨.builtin .max,⟨[x,y]⟩,_⟩=>mmQ nn o.dst true x y
 | _=>.fail
def uz (av:AV) (k:Option Bool → Q):Q:=match av with
 | .c (.p (.bool b))=>k (some b)
 | .c (.p (.tuple _))=>k none
 | _=>.fail
def Ib (nn:Nat) (d:Option Nat):Q:=match d with
 | some d=>o5 nn (some d) [] (.c (.p (.tuple #[]))) noCon
 | none=>.ups []
def gQ (P:Program) (nn:Nat) (ds:List (Option Nat)) (o:Oper):Q:=match o.guard with
 | none=>opQ P nn o
 | some (j,want)=>match ds[j]? with
  | none=>.fail
  | some none=>.fail
  | some (some dj)=>.slot dj fun av=>uz av fun b=>if b = some want then opQ P nn o else Ib nn o.dst
section
variable {P:Program} {nn:Nat} {o:Oper} {ct:Cts} {t:Option Stat} {e:Env} {K:Env → Prop} {w0:Base} {a:Act} {w:World} {val:Val} {S:Nat → Prop} {Qx:Exit → Act → World → Prop}
theorem Dw {x:Operand} {i:Nat} (ho:o.op = .extract x i):fh P nn o (l9 nn o.dst x i):=by
 intro ct t e K w0 a w Qx _ hn hq ⟨val,S,hs⟩;unfold l9 at hq;split at hq
 ·rename_i s
  have h1:=hq.2;dsimp only at h1;split at h1
  ·rename_i ts hts
   have hes:e.s s = .tup ts:=by
    unfold Env.view at hts;split at hts <;> first | (cases hts; done) | exact hts
   have hsv:=hs.slot s;rw [hes] at hsv;obtain ⟨vs,hvs,hsz,hcomp⟩:=hsv
   have hex:∀ u,vs[i]? = some u → (execOp a.eval o).run P w = .ok (.value u) w:=fun u hu=>by
    unfold execOp;have:a.eval (.tmp s) = .tuple vs:=hvs;simp only [ho,this,Instr.extract,hu,Sem.run_bind,Sem.run_pure,Result.andThen_ok]
   split at h1
   ·rename_i y hy
    obtain ⟨u,h2,h3⟩:=hcomp i _ hy;have h3:RO w S y u:=h3.resolve_left fun hh=>by obtain ⟨-,_,_,hh⟩:=hh; cases hh
    exact b0 h1 hn hs (Below.refl _ _) (hex u h2) fun _=>⟨0,h3⟩
   ·rename_i ys hy
    obtain ⟨u,h2,h3⟩:=hcomp i _ hy;have h3:=h3.resolve_left fun hh=>by obtain ⟨-,_,_,hh⟩:=hh; cases hh
    exact b0 h1 hn hs (Below.refl _ _) (hex u h2) fun _=>⟨0,h3⟩
   ·rename_i ag n hy
    obtain ⟨u,h2,h3⟩:=hcomp i _ hy;split at h1
    ·rename_i hds
     have h4:=h1.2;dsimp only at h4;split at h4
     ·rename_i cn hcn
      obtain ⟨d,hd,hdn,hK⟩:=fl h4;have h5:=h3.resolve_left fun hh=>by rw [hcn] at hh; cases hh.1
      rw [hcn] at h5;refine dm (hex u h2) ⟨_,hK,(fun key=>if key.1 = d then (if key.2 = 0 then val (s,i + 1) else val key) else val key),S,?_⟩;rw [hd];exact hs.extract (by omega) (fun he=>hds (by rw [hd,he])) hcn h5
     ·exact h4.elim
    ·exact h1.elim
   ·exact h1.elim
  ·exact h1.elim
 ·exact hq.elim
theorem Cz:fh P nn o .fail:=fun _ _ _ _ _ _ _ _ _ _ hq _=>hq.elim
theorem Is (P:Program) (nn:Nat) (o:Oper):fh P nn o (opQ P nn o):=by
 unfold opQ;split
 ·rename_i x ho; exact Th ho
 ·rename_i x ho; exact Hf (.inl ho)
 ·rename_i ho; exact K9 ho
 ·rename_i ho; exact Kb ho
 ·rename_i ho; exact Mk ho
 ·rename_i ho; exact Ln ho
 ·rename_i t x v ho; exact H7 (ty2:=0) ho
 ·rename_i ho; exact Ra ho
 ·rename_i ho; exact Sb ho
 ·rename_i ho; exact Ah ho
 ·rename_i ho; exact Af ho
 ·rename_i ho; exact Lm ho
 ·rename_i ho; exact Dw ho
 ·rename_i ho; exact Q9 ho
 ·rename_i ho; exact Mi ho
 ·rename_i ho; exact Qj ho
 ·rename_i ho; exact Gw ho
 ·rename_i ho; exact Lj ho
 ·rename_i ho; exact Vc ho
 ·rename_i x y s s' ho
  split
  ·rename_i hs; subst hs; exact Hg ho
  ·exact Cz
 ·rename_i ho; exact Ia ho
 ·rename_i ho; exact I2 (mx:=false) ho
 ·rename_i ho; exact I2 (mx:=true) ho
 ·exact Cz
def y6 (ops:Array Oper):List (Option Nat):=ops.toList.map fun o=>o.dst
theorem Lv {av:AV} {k:Option Bool → Q} (h:ah ct t (uz av k) e K):∃ b v,av = .c (.p v) ∧ ((∃ b',b = some b' ∧ v = .bool b') ∨ ∃ a,b = none ∧ v = .tuple a) ∧ ah ct t (k b) e K:=by
 unfold uz at h;split at h
 ·exact ⟨_,_,rfl,.inl ⟨_,rfl,rfl⟩,h⟩
 ·exact ⟨_,_,rfl,.inr ⟨_,rfl,rfl⟩,h⟩
 ·exact h.elim
theorem Jj {ops:Array Oper} {i:Nat} (ho:ops[i]? = some o) (hct:∀ f ro args Post,ct f ro args Post → kw P f ro args Post) (hn:e.n = nn) (hq:ah ct t (gQ P nn (y6 ops) o) e K) (hs:St w0 e a w) :
 wpOp P ops Qx i (fun a' w'=>∃ e',K e' ∧ St w0 e' a' w') a w:=by
 unfold wpOp;simp only [ho];unfold gQ at hq;split at hq
 ·rename_i hg
  have:Region.wanted o (yielded ops a.tmps) = true:=by simp [Region.wanted,hg]
  rw [if_pos this];exact .inl (Is P nn o ct t e K w0 a w Qx hct hn hq hs)
 ·rename_i j want hg
  split at hq
  ·exact hq.elim
  ·exact hq.elim
  ·rename_i dj hdj0
   have hdj:(ops[j]?).bind (·.dst) = some dj:=by
    unfold y6 at hdj0;simp only [List.getElem?_map,Array.getElem?_toList,Option.map_eq_some_iff] at hdj0;obtain ⟨o',h1,h2⟩:=hdj0;rw [h1]; exact h2
   obtain ⟨val,S,hst⟩:=hs;have hq2:=hq.2;obtain ⟨b,v,hb,hbv,h1⟩:=Lv hq2;have hv:=M4 hst dj 0 (by rw [hb]; rfl);rw [hb] at hv;have hv:a.tmps.getD dj undef = v:=fp hv
   have hw:Region.wanted o (yielded ops a.tmps) = decide (b = some want):=by
    unfold Region.wanted;rw [hg];dsimp only;unfold yielded;rw [hdj];simp only [Option.bind_some];rw [Array.getD_eq_getD_getElem?] at hv
    rcases hbv with ⟨b',rfl,rfl⟩ | ⟨a',rfl,rfl⟩
    ·cases ht:a.tmps[dj]? with
     | none=>rw [ht] at hv; cases hv
     | some u =>
      rw [ht] at hv;simp only [Option.getD_some] at hv;subst hv;dsimp only;cases b' <;> cases want <;> rfl
    ·cases ht:a.tmps[dj]? with
     | none=>rfl
     | some u =>
      rw [ht] at hv;simp only [Option.getD_some] at hv;subst hv;rfl
   split at h1
   ·rename_i hbw
    have:Region.wanted o (yielded ops a.tmps) = true:=by rw [hw]; simpa using hbw
    rw [if_pos this];exact .inl (Is P nn o ct t e K w0 a w Qx hct hn h1 ⟨val,S,hst⟩)
   ·rename_i hbw
    have:¬ Region.wanted o (yielded ops a.tmps) = true:=by rw [hw]; simpa using hbw
    rw [if_neg this];unfold Ib at h1;split at h1
    ·rename_i d hd
     obtain ⟨d',hd',hdn,hK⟩:=fl h1;cases hd';refine ⟨_,hK,val,S,?_⟩;rw [hd];exact hst.setP (by omega) (Below.refl _ _) (RO.p _)
    ·rename_i hd
     refine ⟨e,h1.2,val,S,?_⟩;rw [hd]; exact hst
def td (P:Program) (nn:Nat) (ct:Nat → Cts) (t:Nat → Option Stat) (ops:Array Oper):List Nat → Env → (Env → Prop) → Prop
 | [],e,K=>K e
 | i :: l,e,K=>match ops[i]? with
  | some o=>ah (ct i) (t i) (gQ P nn (y6 ops) o) e fun e'=>td P nn ct t ops l e' K
  | none=>False
theorem jb6 (u:Upd) (e:Env):(u.on e).n = e.n:=by cases u <;> rfl
theorem Km:∀ (us:List Upd) (e:Env),(upds us e).n = e.n
 | [],_=>rfl
 | u :: us,e=>(Km us (u.on e)).trans (jb6 u e)
theorem ng:∀ (q:Q) (e:Env),ah ct t q e K → ah ct t q e (fun e'=>K e' ∧ e'.n = e.n)
 | .fail,_,h=>h
 | .slot s k,e,h=>⟨h.1,ng _ e h.2⟩
 | .hd r g p k,e,h=>⟨h.1,ng _ e h.2⟩
 | .cell r g p kk k,e,h=>⟨h.1,ng _ e h.2⟩
 | .sub r g p k,e,h=>⟨h.1,ng _ e h.2⟩
 | .tcon s i k,e,h=>⟨h.1,ng _ e h.2⟩
 | .whole r g k,e,h=>⟨h.1,ng _ e h.2⟩
 | .alt x y,e,h=>h.imp (ng x e) fun h=>⟨h.1,ng y e h.2⟩
 | .ups us,e,h=>⟨h.1,h.2,Km us e⟩
 | .call f ro args us,e,h=>let ⟨Post,h1,h2⟩:=h; ⟨Post,h1,fun r hr=>⟨(h2 r hr).1,(h2 r hr).2,Km _ e⟩⟩
def Bf (ops:Array Oper):Nat → Nat → Nat → Bool
 | 0,_,_=>false
 | f + 1,i,j=>Region.waitsFor .any ops i j || (List.range i).any fun k=>Region.waitsFor .any ops i k && Bf ops f k j
def Vy (ops:Array Oper) (listed:Array Bool):Prop:=∀ j k,listed.getD j false = true → Region.waitsFor .any ops j k = true → listed.getD k false = true
theorem th {ops:Array Oper} {listed:Array Bool} (hc:Vy ops listed):∀ (f i j:Nat),Bf ops f i j = true → (∀ k,Region.waitsFor .any ops i k = true → listed.getD k false = true) → listed.getD j false = true
 | 0,_,_,h,_=>by cases h
 | f + 1,i,j,h,hi=>by
  unfold Bf at h;rw [Bool.or_eq_true] at h
  rcases h with h | h
  ·exact hi j h
  ·obtain ⟨k,-,hk⟩:=List.any_eq_true.1 h;rw [Bool.and_eq_true] at hk;have hkl:=hi k hk.1;exact th hc f k j hk.2 fun m hm=>hc k m hkl hm
def Wo (ops:Array Oper) (st:Nat → Stat):Bool:=(List.range ops.size).all fun i=>((List.range i).all fun j=>Bf ops ops.size i j || (st i).apart (st j)) && ((ops[i]?).map fun o=>o.after.all fun e=>!Region.binds .any e || decide (e.on < i)).getD false
theorem zl {ops:Array Oper} {listed:Array Bool} {i:Nat} (h:i ∈ Region.ready .any ops listed):∀ k,Region.waitsFor .any ops i k = true → listed.getD k false = true:=fun k hk=>by
 obtain ⟨oj,hoj,ed,hed,hb,hon⟩:=Region.waitsFor_spec hk;obtain ⟨-,o,ho,hall⟩:=mem_ready.1 h;rw [hoj] at ho;cases ho;rw [← hon];exact hall ed hed hb
theorem De {ctn:Nat → Cts} {st:Nat → Stat} {ops:Array Oper} {i:Nat} (h1:∀ j,O7 (ctn j)) (h2:∀ j,Hj (ctn j)):∀ (l1 l2:List Nat) (e:Env),(∀ j ∈ l1,(st i).apart (st j) = true) → td P nn ctn (fun j=>some (st j)) ops (l1 ++ i :: l2) e K → td P nn ctn (fun j=>some (st j)) ops (i :: (l1 ++ l2)) e K
 | [],l2,e,_,h=>h
 | j :: l1,l2,e,ha,h=>by
  rw [List.cons_append] at h;unfold td at h
  cases ho:ops[j]? with
  | none=>rw [ho] at h; exact h.elim
  | some oj =>
   rw [ho] at h;have h3:=ez (fun e' he'=>De h1 h2 l1 l2 e' (fun k hk=>ha k (by simp [hk])) he') _ h
   cases hi:ops[i]? with
   | none =>
    obtain ⟨O,hO,hK⟩:=(f0 _).1 h3;obtain ⟨us,hus⟩:=hO.some (h2 j);have:=(hK us hus).2;unfold td at this;rw [hi] at this;exact this.elim
   | some oi =>
    have h4:ah (ctn j) (some (st j)) (gQ P nn (y6 ops) oj) e (fun e'=>ah (ctn i) (some (st i)) (gQ P nn (y6 ops) oi) e' (fun e''=>td P nn ctn (fun j=>some (st j)) ops (l1 ++ l2) e'' K)):=by
     refine ez (fun e' he'=>?_) _ h3;unfold td at he';rw [hi] at he';exact he'
    have h5:=Px (ha j (by simp)) (h1 i) (h2 j) h4;unfold td;rw [hi];refine ez (fun e' he'=>?_) _ h5;rw [List.cons_append];unfold td;rw [ho];exact he'
theorem Ki {ctn:Nat → Cts} {st:Nat → Stat} {ops:Array Oper} (hct:∀ i f ro args Post,ctn i f ro args Post → kw P f ro args Post) (h1:∀ j,O7 (ctn j)) (h2:∀ j,Hj (ctn j)) (hreg:Wo ops st = true) (hQ:∀ e a w,K e → St w0 e a w → Qx .normal a w) :
 ∀ (fuel:Nat) (listed:Array Bool) (rem:List Nat) (e:Env) (a:Act) (w:World),fuel = rem.length → listed.size = ops.size → rem.Pairwise (· < ·) → (∀ j,j ∈ rem ↔ j < ops.size ∧ listed.getD j true = false) → Vy ops listed →
  td P nn ctn (fun j=>some (st j)) ops rem e K → e.n = nn → St w0 e a w → wpAny P .any ops Qx fuel listed a w:=by
 have hregi:∀ i,i < ops.size → (∀ j,j < i → Bf ops ops.size i j = true ∨ (st i).apart (st j) = true) ∧ ∀ k,Region.waitsFor .any ops i k = true → k < i:=fun i hi=>by
  have h3:=List.all_eq_true.1 hreg i (List.mem_range.2 hi);rw [Bool.and_eq_true] at h3;refine ⟨fun j hj=>by simpa using List.all_eq_true.1 h3.1 j (List.mem_range.2 hj),fun k hk=>?_⟩;obtain ⟨oj,hoj,ed,hed,hb,hon⟩:=Region.waitsFor_spec hk;have h4:=h3.2;rw [hoj] at h4;simp only [Option.map_some,Option.getD_some] at h4;have h5:=Array.all_eq_true_iff_forall_mem.1 h4 ed hed;rw [hb] at h5;simp at h5;omega
 intro fuel
 induction fuel with
 | zero =>
  intro listed rem e a w hf hsz hp hm hc har hn hs;have hrem:rem = []:=List.eq_nil_of_length_eq_zero hf.symm;subst hrem;refine ⟨?_,hQ e a w har hs⟩;apply List.eq_nil_iff_forall_not_mem.2;intro i hi;obtain ⟨h3,o,ho,-⟩:=mem_ready.1 hi;have:=(hm i).2 ⟨(Array.getElem?_eq_some_iff.1 ho).1,h3⟩;cases this
 | succ fuel ih =>
  intro listed rem e a w hf hsz hp hm hc har hn hs
  have hlisted:∀ k,k < ops.size → k ∉ rem → listed.getD k false = true:=fun k hk hkr=>by
   have:¬ listed.getD k true = false:=fun hh=>hkr ((hm k).2 ⟨hk,hh⟩);have hks:k < listed.size:=by omega
   simp [hks] at this ⊢;exact this
  refine ⟨fun hr=>?_,fun i hi=>?_⟩
  ·-- the first one that is left may come up
   cases rem with
   | nil=>simp at hf
   | cons i rem =>
    exfalso;obtain ⟨hil,hiu⟩:=(hm i).1 (by simp)
    have:i ∈ Region.ready .any ops listed:=mem_ready.2 ⟨hiu,ops[i],Array.getElem?_eq_getElem hil,fun ed hed hb=>by
     have hw:Region.waitsFor .any ops i ed.on = true:=by
      unfold Region.waitsFor;rw [Array.getElem?_eq_getElem hil];exact Array.any_eq_true'.2 ⟨ed,hed,by simp [hb]⟩
     have hlt:=(hregi i hil).2 _ hw;refine hlisted _ (by omega) fun hmem=>?_
     rcases List.mem_cons.1 hmem with h3 | h3
     ·omega
     ·have:=(List.pairwise_cons.1 hp).1 _ h3
      omega⟩
    rw [hr] at this;cases this
  ·obtain ⟨hiu,o,ho,-⟩:=mem_ready.1 hi;have hil:=(Array.getElem?_eq_some_iff.1 ho).1;have hir:i ∈ rem:=(hm i).2 ⟨hil,hiu⟩;obtain ⟨l1,l2,rfl⟩:=List.append_of_mem hir;have hlt:∀ j ∈ l1,j < i:=fun j hj=>(List.pairwise_append.1 hp).2.2 j hj i (by simp)
   have hap:∀ j ∈ l1,(st i).apart (st j) = true:=fun j hj=>by
    rcases (hregi i hil).1 j (hlt j hj) with h3 | h3
    ·have h4:=th hc _ i j h3 (zl hi);have h5:=((hm j).1 (by simp [hj])).2;have hjs:j < listed.size:=by have:=((hm j).1 (by simp [hj])).1; omega
     simp [hjs] at h4 h5;rw [h4] at h5;cases h5
    ·exact h3
   have h6:=De h1 h2 l1 l2 e hap har;unfold td at h6;rw [ho] at h6;refine wpOp_mono ?_ (Jj ho (hct i) hn (ng _ _ h6) hs);rintro a' w' ⟨e',⟨h7,h8⟩,h9⟩
   have hnd:∀ j,j ∈ l1 ++ l2 → j ≠ i:=fun j hj he=>by
    subst he
    rcases List.mem_append.1 hj with h10 | h10
    ·have:=hlt j h10; omega
    ·have:=(List.pairwise_cons.1 (List.pairwise_append.1 hp).2.1).1 j h10; omega
   refine ih (listed.setIfInBounds i true) (l1 ++ l2) e' a' w' ?_ (by simp [hsz]) ?_ (fun j=>?_) (fun j k hj hk=>?_) h7 (h8.trans hn) h9
   ·simp at hf ⊢; omega
   ·exact hp.sublist (List.Sublist.append_left (List.sublist_cons_self _ _) _)
   ·by_cases hji:j = i
    ·subst hji;refine ⟨fun hh=>absurd rfl (hnd j hh),fun hh=>?_⟩;have hjs:j < listed.size:=by omega
     simp [hjs] at hh
    ·rw [getD_set_ne true (Ne.symm hji),← hm j];simp [hji]
   ·by_cases hji:j = i
    ·subst hji;exact getD_set_true (zl hi k hk)
    ·rw [getD_set_ne false (Ne.symm hji)] at hj;exact getD_set_true (hc j k hj hk)
end
end
end Go.Proofs.YtfknckinfcicbaaGreat

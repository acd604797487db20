/- Parts of the proof. -/
import Derived.Test.YtfknckinfcicbaaGreatCJn7
import Derived.Test.YtfknckinfcicbaaGreatCJn10
set_option linter.unusedSimpArgs false
set_option linter.unusedVariables false
namespace Go.Proofs.YtfknckinfcicbaaGreat
section
open Go Go.RowKit
def iC (x:Int):List C:=[.p (.int .i64 x)]
def eC (e:Int × Int):List C:=[.p (.int .i64 e.1),.p (.int .i64 e.2)]
def ints (o:Bool) (t:TypeId) (xs:List Int):C:=.sl o t 1 (xs.map iC)
theorem A9 (n:Nat):fc [.int .i64 0] n = (List.replicate n 0).map iC:=by simp [fc,iC]
theorem cf {L:List Int} {k:Nat} (h:k < L.length):cg (L.map iC) k 0 = some (.p (.int .i64 (gi L k))):=by
 unfold cg;simp [iC,gi,h]
theorem bj (k:Nat):((k + 1:Nat):Int) = (k:Int) + 1:=rfl
theorem lv (L:List Int) (k:Nat) (v:Int):((L.map iC).modify k fun row=>row.modify 0 fun _=>C.p (.int .i64 v)) = (L.set k v).map iC:=by
 apply List.ext_getElem?;intro j;rw [List.getElem?_modify,List.getElem?_map,List.getElem?_map,List.getElem?_set]
 by_cases h:k = j
 ·subst h
  by_cases hk:k < L.length
  ·simp [hk,iC]
  ·simp [hk]
 ·simp [h]
def ends (o:Bool) (t:TypeId) (es:List (Int × Int)):C:=.sl o t 2 (es.map eC)
def b9 (o:Bool) (t:TypeId) (o2:Bool) (t2:TypeId) (ess:List (List (Int × Int))):C:=.sl o t 1 (ess.map fun es=>[ends o2 t2 es])
theorem cx {ess:List (List (Int × Int))} {o:Bool} {t:TypeId} {k:Nat} (h:k < ess.length):(ess.map fun es=>[C.sl o t 2 (es.map eC)]).getD k [] = [C.sl o t 2 ((gl ess k).map eC)]:=by
 rw [List.getD_eq_getElem?_getD,List.getElem?_map,List.getElem?_eq_getElem h,jg h]; rfl
theorem cw {es:List (Int × Int)} {k:Nat} (h:k < es.length):(es.map eC).getD k [] = [.p (.int .i64 (gp es k).1),.p (.int .i64 (gp es k).2)]:=by
 rw [List.getD_eq_getElem?_getD,List.getElem?_map,List.getElem?_eq_getElem h,gb h]; rfl
theorem bo {xs:List Int} {k:Nat} (h:k < xs.length):(xs.map iC).getD k [] = [.p (.int .i64 (gi xs k))]:=by
 rw [List.getD_eq_getElem?_getD,List.getElem?_map,List.getElem?_eq_getElem h,bt h]; rfl
structure NF where
 o1:Bool
 t1:TypeId
 o2:Bool
 t2:TypeId
 o3:Bool
 t3:TypeId
 o4:Bool
 t4:TypeId
def be (f:NF) (N:Net):List C:=[b9 f.o1 f.t1 f.o2 f.t2 N.ends,ints f.o3 f.t3 N.ids,ints f.o4 f.t4 N.inputs]
section
variable {w:World} {S:Nat → Prop} {v:Value}
theorem qx {α:Type} {f:α → List C} {xs:List α} {j q:Nat} {c:C} {x:α} (hx:xs[j]? = some x) (hc:(f x)[q]? = some c):cg (xs.map f) j q = some c:=bi.2 ⟨f x,by simp [hx],hc⟩
theorem qd {o:Bool} {t:TypeId} {xs:List Int} (h:RO w S (ints o t xs) v):IntsR w S v xs:=by
 obtain ⟨A,cap,h1,h2,h3,h4⟩:=h.shape;rw [List.length_map] at h1 h2;refine ⟨A,cap,h1,h2,h3,fun hn=>?_⟩;obtain ⟨b,off,rfl,h5,h6,-,h7⟩:=h4 (by intro he; have:=congrArg List.length he; simp at this; rw [this] at hn; simp at hn);refine ⟨b,off,rfl,h5,fun j hj=>?_⟩;obtain ⟨u,h8,h9⟩:=h7 j 0 (.p (.int .i64 (gi xs j))) (qx (List.getElem?_eq_getElem hj) (by rw [bt hj]; rfl));rw [show off + j * 1 + 0 = off + j by omega] at h8;rw [h8,fp h9]
theorem X6 {o:Bool} {t:TypeId} {xs:List (Int × Int)} (h:RO w S (ends o t xs) v):EndsR w S v xs:=by
 obtain ⟨A,cap,h1,h2,h3,h4⟩:=h.shape;rw [List.length_map] at h1 h2;refine ⟨A,cap,h1,h2,h3,fun hn=>?_⟩;obtain ⟨b,off,rfl,h5,h6,-,h7⟩:=h4 (by intro he; have:=congrArg List.length he; simp at this; rw [this] at hn; simp at hn);refine ⟨b,off,rfl,h5,fun j hj=>⟨?_,?_⟩⟩
 ·obtain ⟨u,h8,h9⟩:=h7 j 0 (.p (.int .i64 (gp xs j).1)) (qx (List.getElem?_eq_getElem hj) (by rw [gb hj]; rfl));rw [show off + j * 2 + 0 = off + j * 2 by omega] at h8;rw [h8,fp h9]
 ·obtain ⟨u,h8,h9⟩:=h7 j 1 (.p (.int .i64 (gp xs j).2)) (qx (List.getElem?_eq_getElem hj) (by rw [gb hj]; rfl));rw [h8,fp h9]
theorem Vt {o o2:Bool} {t t2:TypeId} {xs:List (List (Int × Int))} (h:RO w S (b9 o t o2 t2 xs) v):EndSSR w S v xs:=by
 obtain ⟨A,cap,h1,h2,h3,h4⟩:=h.shape;rw [List.length_map] at h1 h2;refine ⟨A,cap,h1,h2,h3,fun hn=>?_⟩;obtain ⟨b,off,rfl,h5,h6,-,h7⟩:=h4 (by intro he; have:=congrArg List.length he; simp at this; rw [this] at hn; simp at hn);refine ⟨b,off,rfl,h5,fun j hj=>?_⟩;obtain ⟨u,h8,h9⟩:=h7 j 0 (ends o2 t2 (gl xs j)) (qx (f:=fun es=>[ends o2 t2 es]) (List.getElem?_eq_getElem hj) (by rw [jg hj]; rfl));rw [show off + j * 1 + 0 = off + j by omega] at h8;exact ⟨u,h8,X6 h9⟩
theorem jbh {f:NF} {N:Net} {vs:Array Value} (h:ROs w S (be f N) vs):NetR w S (.agg vs) N:=by
 obtain ⟨h1,h2⟩:=h;obtain ⟨u0,g0,k0⟩:=h2 0 _ rfl;obtain ⟨u1,g1,k1⟩:=h2 1 _ rfl;obtain ⟨u2,g2,k2⟩:=h2 2 _ rfl
 have:vs = #[u0,u1,u2]:=by
  apply Array.ext_getElem?;intro i
  rcases (by omega:i = 0 ∨ i = 1 ∨ i = 2 ∨ 3 ≤ i) with rfl | rfl | rfl | hi
  ·rw [g0]; rfl
  ·rw [g1]; rfl
  ·rw [g2]; rfl
  ·have:vs.size = 3:=h1;rw [Array.getElem?_eq_none (by omega),Array.getElem?_eq_none (by simpa using hi)]
 exact ⟨u0,u1,u2,by rw [this],Vt k0,qd k1,qd k2⟩
end
theorem ot {P:Program} {f:FuncId} {as:List Arg} {u:Value} (h:∀ w (vs:Array Value),vs.size = as.length → (∀ (i:Nat) (x:Arg),as[i]? = some x → ∃ u,vs[i]? = some u ∧ fi w x u) → Calls P f vs w (tg w u)):DCalls P f as (fun r=>r = [.c (.p u)]):=fun w vs h1 h2=>by
 refine (h w vs h1 h2).mono ?_;rintro e w' ⟨rfl,hb⟩;refine ⟨_,u,fun _ _=>undef,fun _=>False,rfl,rfl,hb,⟨fun key cn p c hc=>?_,fun key t xs hc=>?_,fun b key p key' p' ho=>?_,fun b hb=>hb.elim⟩,fun b key p ho=>?_,fun b hb=>hb.elim,RO.p u⟩
 all_goals
  have hno:∀ key,resCon [.c (.p u)] key = none:=fun key=>by unfold resCon; simp [RV.con]
 ·rw [hno] at hc; cases hc
 ·rw [hno] at hc; cases hc
 ·obtain ⟨x,hx⟩:=ho.some; rw [hno] at hx; cases hx
 ·obtain ⟨x,hx⟩:=ho.some; rw [hno] at hx; cases hx
theorem J6 {w:World} {vs:Array Value} {x:Arg} (h1:vs.size = 1) (h2:∀ (i:Nat) (y:Arg),[x][i]? = some y → ∃ u,vs[i]? = some u ∧ fi w y u):∃ u,vs = #[u] ∧ fi w x u:=by
 obtain ⟨u,g1,g2⟩:=h2 0 x rfl;refine ⟨u,?_,g2⟩;apply Array.ext_getElem?;intro i
 rcases (by omega:i = 0 ∨ 1 ≤ i) with rfl | hi
 ·rw [g1]; rfl
 ·rw [Array.getElem?_eq_none (by omega),Array.getElem?_eq_none (by simpa using hi)]
theorem O4 {w:World} {vs:Array Value} {x y:Arg} (h1:vs.size = 2) (h2:∀ (i:Nat) (z:Arg),[x,y][i]? = some z → ∃ u,vs[i]? = some u ∧ fi w z u):∃ u v,vs = #[u,v] ∧ fi w x u ∧ fi w y v:=by
 obtain ⟨u,g1,g2⟩:=h2 0 x rfl;obtain ⟨v,g3,g4⟩:=h2 1 y rfl;refine ⟨u,v,?_,g2,g4⟩;apply Array.ext_getElem?;intro i
 rcases (by omega:i = 0 ∨ i = 1 ∨ 2 ≤ i) with rfl | rfl | hi
 ·rw [g1]; rfl
 ·rw [g3]; rfl
 ·rw [Array.getElem?_eq_none (by omega),Array.getElem?_eq_none (by simpa using hi)]
theorem Yt {w:World} {vs:Array Value} {x y z:Arg} (h1:vs.size = 3) (h2:∀ (i:Nat) (t:Arg),[x,y,z][i]? = some t → ∃ u,vs[i]? = some u ∧ fi w t u):∃ u v t,vs = #[u,v,t] ∧ fi w x u ∧ fi w y v ∧ fi w z t:=by
 obtain ⟨u,g1,g2⟩:=h2 0 x rfl;obtain ⟨v,g3,g4⟩:=h2 1 y rfl;obtain ⟨t,g5,g6⟩:=h2 2 z rfl;refine ⟨u,v,t,?_,g2,g4,g6⟩;apply Array.ext_getElem?;intro i
 rcases (by omega:i = 0 ∨ i = 1 ∨ i = 2 ∨ 3 ≤ i) with rfl | rfl | rfl | hi
 ·rw [g1]; rfl
 ·rw [g3]; rfl
 ·rw [g5]; rfl
 ·rw [Array.getElem?_eq_none (by omega),Array.getElem?_eq_none (by simpa using hi)]
theorem J9 {w:World} {n:Int} {u:Value} (h:fi w (.c (.p (.int .i64 n))) u):u = .int .i64 n:=fp h
theorem Vk {w:World} {f:NF} {N:Net} {u:Value} (h:fi w (.agg (be f N)) u):NetR w (fun _=>True) u N:=by
 obtain ⟨vs,rfl,h1⟩:=h;exact jbh h1
end
section
open Go Go.RowKit
def patchS (l:List (Nat × AV)):List (Nat × AV) → List (Nat × AV)
 | []=>[]
 | (k,v) :: r=>(k,(l.lookup k).getD v) :: patchS l r
def patchC (l:List (bh × Con)):List (bh × Con) → List (bh × Con)
 | []=>[]
 | (k,v) :: r=>(k,(l.lookup k).getD v) :: patchC l r
section
variable {P:Program} {w0:Base}
theorem ax {c:Code} {Q:Exit → Env → Prop} {n:Nat} {Sl:List (Nat × AV)} {Cn:List (bh × Con)} {X:Type} (I:X → Prop) (sl:X → List (Nat × AV)) (cn:X → List (bh × Con)) (μ:X → Nat) (x0:X) (h0:I x0)
 (he:mkE n Sl Cn = mkE n (patchS (sl x0) Sl) (patchC (cn x0) Cn))
 (round:∀ x,I x → ∀ E,mkE n (patchS (sl x) Sl) (patchC (cn x) Cn) = E → DW P w0 c (v6 (fun e'=>∃ x',I x' ∧ μ x' < μ x ∧ Weak e' (mkE n (patchS (sl x') Sl) (patchC (cn x') Cn))) Q) E):DW P w0 (.loop c) Q (mkE n Sl Cn) :=
 Ow I (fun x=>mkE n (patchS (sl x) Sl) (patchC (cn x) Cn)) μ x0 h0 (Weak.of_eq he) fun x hx=>round x hx _ rfl
theorem pn {x y:Code} {Q:Exit → Env → Prop} {e:Env} {X:Type} (I:X → Prop) (env:X → Env) (h1:DW P w0 x (v6 (fun e'=>∃ z,I z ∧ Weak e' (env z)) Q) e) (h2:∀ z,I z → DW P w0 y Q (env z)):DW P w0 (.seq x y) Q e:=by
 refine ab (Xp (fun ex e' h=>?_) h1);cases ex <;> first | exact h | exact (let ⟨z,hz,hw⟩:=h; gz hw (h2 z hz))
theorem R4 {e:Env} {s:Nat} (T k:Nat) (hk:0 < k) (h:e.s s = .c (.p (.slice none 0 0))):Weak e (e.set s (.own false 1) (oneCon ⟨none,[.sl true T k []]⟩)):=fun w0 a w ⟨val,S,hs⟩=>by
 have hv:=hs.slot s;rw [h] at hv;have hv:a.tmps.getD s undef = .slice none 0 0:=fp hv
 have hlt:s < a.tmps.size:=by
  rcases Nat.lt_or_ge s a.tmps.size with h1 | h1
  ·exact h1
  ·rw [Array.getD_eq_getD_getElem?,Array.getElem?_eq_none h1] at hv;cases hv
 obtain ⟨val',h1,-⟩:=hs.nilOwn (d:=s) (ty:=T) (k:=k) (by rw [← hs.sz]; exact hlt) hk
 have ha:a.put (some s) (.slice none 0 0) = a:=by
  unfold Act.put
  have:a.tmps.setIfInBounds s (.slice none 0 0) = a.tmps:=by
   apply Array.ext_getElem?;intro i;rw [Array.getElem?_setIfInBounds];split
   ·rename_i hi
    subst hi;rw [Array.getElem?_eq_getElem hlt];rw [Array.getD_eq_getD_getElem?,Array.getElem?_eq_getElem hlt] at hv;exact congrArg some (show a.tmps[s] = .slice none 0 0 from hv).symm
   ·rfl
  cases a;simp only at this ⊢;rw [this]
 rw [ha] at h1;exact ⟨val',S,h1⟩
theorem pm {y:Code} {Q:Exit → Env → Prop} {n:Nat} {Sl:List (Nat × AV)} {Cn:List (bh × Con)} {sl2:List (Nat × AV)} {cn2:List (bh × Con)} (s T k:Nat) (hk:0 < k) (h:(mkE n Sl Cn).s s = .c (.p (.slice none 0 0))) (ks:List Nat)
 (h2:keepE ((mkE n Sl Cn).set s (.own false 1) (oneCon ⟨none,[.sl true T k []]⟩)) ks = mkE n sl2 cn2) (hd:DW P w0 y Q (mkE n sl2 cn2)):DW P w0 y Q (mkE n Sl Cn) :=
 gz (R4 T k hk h) (gz (ce _ ks) (by rw [h2]; exact hd))
end
theorem Z9 (e:Env) (r i:Nat):(e.drop r i).n = e.n:=rfl
theorem Z8 (e:Env) (r i s:Nat):(e.drop r i).s s = e.s s:=rfl
theorem Uq (e:Env) (r i:Nat) (k:bh):(e.drop r i).con k = if k = (r,i + 1) then none else e.con k:=rfl
theorem Up (e:Env) (r i s:Nat):(e.drop r i).gen s = e.gen s:=rfl
theorem Lz (e:Env) (r i s:Nat):(e.drop r i).dirty s = e.dirty s:=rfl
theorem Zj (a b:RV) (l:List RV):resAV (a :: b :: l) = .tup ((a :: b :: l).map RV.tv):=rfl
theorem Pu (a b:RV) (l:List RV):resCon (a :: b :: l) (0,0) = none:=rfl
theorem Pt (a b:RV) (l:List RV):resCon (a :: b :: l) (0,1) = a.con:=rfl
theorem Ps (a b:RV) (l:List RV):resCon (a :: b :: l) (0,2) = b.con:=rfl
theorem Pr (a b c:RV) (l:List RV):resCon (a :: b :: c :: l) (0,3) = c.con:=rfl
theorem Pq (a b c d:RV) (l:List RV):resCon (a :: b :: c :: d :: l) (0,4) = d.con:=rfl
theorem Pp (a b c d e:RV) (l:List RV):resCon (a :: b :: c :: d :: e :: l) (0,5) = e.con:=rfl
theorem Pm (xs:List Int):km (xs.map iC) = true:=by
 induction xs with
 | nil=>rfl
 | cons x xs ih=>exact ih
theorem Pn (xs:List (Int × Int)):km (xs.map eC) = true:=by
 induction xs with
 | nil=>rfl
 | cons x xs ih=>exact ih
theorem Kv:km [] = true:=rfl
theorem Ku (r:List C):km [r] = r.all fun c=>c.flat && c.one:=by simp [km]
theorem I1 {rows:List (List C)} {r:List C} {f:List C → List C}:(rows ++ [r]).modify rows.length f = rows ++ [f r]:=by
 induction rows with
 | nil=>rfl
 | cons x rows ih=>simpa using ih
theorem je {α:Type} {xs:List α} {g:α → List C} {r:List C} {f:List C → List C}:(xs.map g ++ [r]).modify xs.length f = xs.map g ++ [f r]:=by
 have:=I1 (rows:=xs.map g) (r:=r) (f:=f);rwa [List.length_map] at this
theorem il (xs:List Int) (x:Int):xs.map iC ++ [[C.p (.int .i64 x)]] = (xs ++ [x]).map iC:=by simp [iC]
theorem jb (xs:List (Int × Int)) (x y:Int):xs.map eC ++ [[C.p (.int .i64 x),C.p (.int .i64 y)]] = (xs ++ [(x,y)]).map eC:=by simp [eC]
theorem cq (t:TypeId) (xs:List Int):(C.sl true t 1 (xs.map iC)).owned:=wv fun r hr c hc=>by
 obtain ⟨x,-,rfl⟩:=List.mem_map.1 hr;simp only [iC,List.mem_singleton] at hc;subst hc; exact Nt _
theorem Le (t:TypeId) (xs:List (Int × Int)):(C.sl true t 2 (xs.map eC)).owned:=wv fun r hr c hc=>by
 obtain ⟨x,-,rfl⟩:=List.mem_map.1 hr;simp only [eC,List.mem_cons,List.not_mem_nil,or_false] at hc
 rcases hc with rfl | rfl <;> exact Nt _
def lsC (t:TypeId) (l:List Int):List C:=[.sl true t 1 (l.map iC)]
theorem q8 (t t2:TypeId) (L:List (List Int)):(C.sl true t 1 (L.map (lsC t2))).owned:=wv fun r hr c hc=>by
 obtain ⟨x,-,rfl⟩:=List.mem_map.1 hr;simp only [lsC,List.mem_singleton] at hc;subst hc; exact cq _ _
theorem own1 {x:C} (h:x.owned):∀ y ∈ [x],y.owned:=fun y hy=>by simp at hy; subst hy; exact h
end
section
open Go Go.RowKit
def tC (b:Bool):List C:=[.p (.bool b)]
def bL (c:Nat → Bool) (n:Nat):List (List C):=(List.range n).map fun w=>tC (c w)
theorem jdq (c:Nat → Bool) (n:Nat):(bL c n).length = n:=by simp [bL]
theorem jdv {c:Nat → Bool} {n k:Nat} (h:k < n):(bL c n).getD k [] = [.p (.bool (c k))]:=by simp [bL,tC,h]
theorem jdx {c:Nat → Bool} {n k:Nat} (h:k < n):cg (bL c n) k 0 = some (.p (.bool (c k))):=bi.2 ⟨tC (c k),by simp [bL,h],rfl⟩
end
section
open Go Go.RowKit
theorem Jk {xs:List C} {p:aj} {c:C} (h:look (xs.map C.frz) p = some c):∃ c0,look xs p = some c0 ∧ c = c0.frz:=by
 match p with
 | []=>cases h
 | (j + 1,i) :: z=>cases h
 | (0,i) :: z =>
  unfold look at h ⊢;simp only [List.getElem?_map] at h ⊢
  cases hx:xs[i]? with
  | none=>rw [hx] at h; cases h
  | some x =>
   rw [hx] at h;simp only [Option.map_some,Option.bind_some] at h ⊢
   cases z with
   | nil=>rw [da] at h ⊢; cases h; exact ⟨x,rfl,rfl⟩
   | cons s z=>cases x <;> simp [C.frz,C.at] at h
theorem Xi {c:C} {t k:Nat} {rows:List (List C)}:c.frz ≠ .sl true t k rows:=by
 cases c <;> simp [C.frz]
theorem gf (e:Env) (r:Nat):Weak e (e.frz r):=fun w0 a w ⟨val,S,h⟩=>by
 cases hc:e.con (r,0) with
 | none =>
  have:e.frz r = e:=by
   cases e;simp only [Env.frz,Env.mk.injEq,true_and,and_true];funext key;split
   ·rename_i hk; rw [hk]; exact congrArg (Option.map _) hc |>.trans hc.symm
   ·rfl
  rw [this]; exact ⟨val,S,h⟩
 | some cn =>
  have kr:(e.frz r).con (r,0) = some { cn with xs:=cn.xs.map C.frz }:=by rw [Ay,if_pos rfl,hc]; rfl
  have ko:∀ key,key ≠ (r,0) → (e.frz r).con key = e.con key:=fun key hk=>by rw [Ay,if_neg hk]
  have own:∀ b key p,OwnB (e.frz r).con val b key p → OwnB e.con val b key p ∧ (key = (r,0) → p = []):=fun b key p ho=>by
   by_cases hk:key = (r,0)
   ·subst hk
    rcases ho with ⟨k1,⟨t',zs,k2⟩,k3⟩ | ⟨cn',t',k,rows,n,cap,k1,k2,k3⟩
    ·rw [kr] at k2;simp only [Option.some.injEq,Con.mk.injEq] at k2;refine ⟨.inl ⟨k1,⟨t',cn.xs,?_⟩,k3⟩,fun _=>k1⟩;rw [hc,← k2.1]
    ·rw [kr] at k1;cases k1;obtain ⟨c0,g1,g2⟩:=Jk k2;exact absurd g2.symm Xi
   ·exact ⟨ho.con (ko key hk).symm rfl,fun h=>absurd h hk⟩
  refine ⟨val,fun b=>S b ∨ ∃ p,p ≠ [] ∧ OwnB e.con val b (r,0) p,h.sz,h.defers,⟨fun key cn' p c h1 h2=>?_,fun key t xs h1=>?_,fun b key p key' p' h1 h2=>h.mem.inj b key p key' p' (own _ _ _ h1).1 (own _ _ _ h2).1,fun b hb=>?_⟩,fun s=>?_,h.frm,fun b key p ho=>h.low b key p (own _ _ _ ho).1,h.rts,fun b hb=>?_⟩
  ·by_cases hk:key = (r,0)
   ·subst hk;rw [kr] at h1;cases h1;obtain ⟨c0,g1,rfl⟩:=Jk h2;have hro:=B8 (S':=fun b=>S b ∨ ∃ p,p ≠ [] ∧ OwnB e.con val b (r,0) p) (fun p c hl=>h.mem.node (r,0) cn p c hc hl) (fun _ hb=>.inl hb) (fun p t k rows b o n cap hl hv=>.inr ⟨p,eh hl,.inr ⟨cn,t,k,rows,n,cap,hc,hl,o,hv⟩⟩) c0 p g1
    cases c0 with
    | p v=>exact h.mem.node (r,0) cn p _ hc g1
    | hole=>trivial
    | sl o t k rows=>exact hro.flag
   ·rw [ko key hk] at h1;exact (h.mem.node key cn' p c h1 h2).keep (fun _ hb _=>.inl hb) (fun _ _ _=>rfl) fun _ _ _ _ _ _ _ _ _ _=>rfl
  ·by_cases hk:key = (r,0)
   ·subst hk;rw [kr] at h1;simp only [Option.some.injEq,Con.mk.injEq] at h1;obtain ⟨b,cur,g1,g2,g3,g4⟩:=h.mem.root (r,0) t cn.xs (by rw [hc,← h1.1]);rw [← h1.2];exact ⟨b,cur,g1,g2,by simpa using g3,fun i hi=>g4 i (by simpa using hi)⟩
   ·rw [ko key hk] at h1;exact h.mem.root key t xs h1
  ·rcases hb with hb | ⟨p,hp,hb⟩
   ·exact ⟨(h.mem.sep b hb).1,fun key p ho=>(h.mem.sep b hb).2 key p (own _ _ _ ho).1⟩
   ·refine ⟨h.mem.lt hb,fun key p2 ho=>?_⟩;obtain ⟨g1,g2⟩:=own _ _ _ ho;obtain ⟨g3,g4⟩:=h.mem.inj _ _ _ _ _ g1 hb;exact hp (by rw [← g4]; exact g2 g3)
  ·have hsv:=h.slot s;show SV _ _ _ _ s (e.s s) _
   by_cases hs:s = r
   ·subst hs;have kt:∀ i,(e.frz s).con (s,i + 1) = e.con (s,i + 1):=fun i=>ko _ (by simp)
    cases hav:e.s s with
    | own ag n =>
     rw [hav] at hsv;have hsv:TVok w S (e.con (s,0)) (val (s,0)) (.own ag n) (a.tmps.getD s undef):=hsv;rw [hc] at hsv;show TVok _ _ ((e.frz s).con (s,0)) _ _ _;rw [kr]
     cases ag with
     | false=>obtain ⟨⟨x,g1⟩,g2,g3⟩:=hsv; cases g1; exact ⟨⟨x.frz,rfl⟩,g2,g3⟩
     | true=>obtain ⟨xs,vs,g1,g2,g3,g4,g5⟩:=hsv; cases g1; exact ⟨xs.map C.frz,vs,rfl,by simpa using g2,g3,g4,g5⟩
    | box =>
     rw [hav] at hsv;obtain ⟨⟨t,xs,g1⟩,g2⟩:=hsv;rw [hc] at g1;cases g1;exact ⟨⟨t,xs.map C.frz,kr⟩,g2⟩
    | tup ts =>
     rw [hav] at hsv;obtain ⟨vs,g1,g2,g3⟩:=hsv;refine ⟨vs,g1,g2,fun m tv hm=>?_⟩;obtain ⟨u,g4,g5⟩:=g3 m tv hm;refine ⟨u,g4,?_⟩;rw [kt];exact g5.keep (fun _ hb _=>.inl hb) fun _ _ _=>rfl
    | dead=>trivial
    | c y=>rw [hav] at hsv; exact RO.weak hsv fun _ hb _=>.inl hb
    | agg ys=>rw [hav] at hsv; obtain ⟨vs,g1,g2⟩:=hsv; exact ⟨vs,g1,g2.keep (fun _ hb _=>.inl hb) fun _ _ _=>rfl⟩
    | ref r1 g p ag n=>rw [hav] at hsv; exact hsv
    | ptr r1 g p k=>rw [hav] at hsv; exact hsv
    | fn g css=>rw [hav] at hsv; exact FNok.keep hsv (fun _ hb _=>.inl hb) fun _ _ _=>rfl
    | clo g rs=>rw [hav] at hsv; exact hsv
    | rp ys =>
     rw [hav] at hsv;obtain ⟨b,off,g1,g2,g3,g4⟩:=hsv
     exact ⟨b,off,g1,.inl g2,g3,fun i y hi=>by
      obtain ⟨u,g5,g6⟩:=g4 i y hi
      exact ⟨u,g5,g6.weak fun _ hb _=>.inl hb⟩⟩
   ·exact hsv.keep (fun _ hb _=>.inl hb) (fun _ _ _=>rfl) (fun i=>ko _ fun hh=>hs (by cases hh; rfl)) (fun _ _=>rfl) rfl (fun _=>Nat.le_refl _) fun r g p _ hf=>⟨hf,rfl⟩
  ·rcases hb with hb | ⟨p,-,hb⟩
   ·exact h.sS b hb
   ·exact .inl (h.low b _ _ hb)
section
variable {P:Program} {w0:Base}
theorem vj {y:Code} {Q:Exit → Env → Prop} {n:Nat} {Sl:List (Nat × AV)} {Cn:List (bh × Con)} {sl2:List (Nat × AV)} {cn2:List (bh × Con)} (r:Nat) (ks:List Nat)
 (h2:keepE ((mkE n Sl Cn).frz r) ks = mkE n sl2 cn2) (hd:DW P w0 y Q (mkE n sl2 cn2)):DW P w0 y Q (mkE n Sl Cn) :=
 gz (gf _ r) (gz (ce _ ks) (by rw [h2]; exact hd))
theorem f6 {fn:Func} {res:Array ResultVar} {Post:Res → Prop} {r:Res} {e:Env} (hres:fn.results = res) (h:RAs P e res.toList r) (hn:(res.toList.map cy).Nodup) (hp:Post r):jc6 P fn Post .ret e:=⟨r,by rw [hres]; exact h,by rw [hres]; exact hn,hp⟩
theorem b6 {fn:Func} {res:Array ResultVar} {nn n:Nat} {t:TypeId} {xs:List C} {Post:Res → Prop} {r:Res} {e:Env} (hres:fn.results = res) (hnn:fn.ntmps = nn) (h:RAs P e res.toList r) (hn:(res.toList.map cy).Nodup) (hlt:(res.toList.all fun v=>decide (cy v < nn)) = true) (hen:e.n = nn) (hc:e.con (nn,0) = some ⟨some t,xs⟩) (hl:xs.length = n) (hp:Post (.own true xs :: r)):Vx P fn t n Post .ret e :=
 ⟨r,xs,by rw [hres]; exact h,by rw [hres]; exact hn,by rw [hres,hnn]; exact hlt,by rw [hnn]; exact hen,by rw [hnn]; exact hc,hl,hp⟩
theorem RAs.one {e:Env} {v:ResultVar} {r:RV} (h:RA P e v r):RAs P e [v] [r]:=.cons _ _ _ _ h .nil
theorem RAs.two {e:Env} {v v':ResultVar} {r r':RV} (h:RA P e v r) (h':RA P e v' r'):RAs P e [v,v'] [r,r']:=.cons _ _ _ _ h (.cons _ _ _ _ h' .nil)
theorem RAs.three {e:Env} {v v' v2:ResultVar} {r r' r2:RV} (h:RA P e v r) (h':RA P e v' r') (h2:RA P e v2 r2):RAs P e [v,v',v2] [r,r',r2]:=.cons _ _ _ _ h (.cons _ _ _ _ h' (.cons _ _ _ _ h2 .nil))
end
end
section
open Go Go.RowKit
theorem pz_1 (y:C):C.put y [] = fun _=>y:=rfl
def pz_0:=PLift.up (And.intro @pz_1 (And.intro @C.at.eq_1 (And.intro @C.at.eq_2 (And.intro @C.at.eq_3 (And.intro @C.put.eq_1 (And.intro @C.put.eq_2 (And.intro @C.put.eq_3 (And.intro @List.dropLast.eq_1.{0} (And.intro @List.dropLast.eq_2.{0} (And.intro @List.dropLast.eq_3.{0} (And.intro @List.isPrefixOf.eq_1.{0} (And.intro @List.isPrefixOf.eq_2.{0} @List.isPrefixOf.eq_3.{0}))))))))))))
theorem pZ:type_of% pz_0.down:=pz_0.down
def zBDbu1:=PLift.up ((And.intro (And.intro (And.intro (And.intro (And.intro (And.intro @jct (And.intro @Ys @Ay)) (And.intro (And.intro @Xj @Qu) (And.intro @Z6 @jcs))) (And.intro (And.intro @Zj (And.intro @Pu @Pt)) (And.intro (And.intro @Ps @Pr) (And.intro @Pq @Pp)))) (And.intro (And.intro (And.intro @List.map_cons.{0,0} (And.intro @keepE.eq_1 @patchS.eq_1)) (And.intro (And.intro @patchS.eq_2 @patchC.eq_1) (And.intro @patchC.eq_2 @List.map.eq_1.{0,0}))) (And.intro (And.intro @List.map.eq_2.{0,0} (And.intro @List.filterMap.eq_1.{0,0} @List.filterMap.eq_2.{0,0})) (And.intro (And.intro @Xz @jb7) (And.intro @jb8 @Wi))))) (And.intro (And.intro (And.intro (And.intro @Wh (And.intro @Pj @jcb)) (And.intro (And.intro @jcc @Zk) (And.intro @Wr @Py))) (And.intro (And.intro @Li (And.intro @jdj @Zr)) (And.intro (And.intro @Zq @Ti) (And.intro @noCon.eq_1 @oneCon.eq_1)))) (And.intro (And.intro (And.intro @AV.keep.eq_def (And.intro @List.lookup.eq_1.{0,0} @List.lookup.eq_2.{0,0})) (And.intro (And.intro @Option.getD.eq_1.{0} @Option.getD.eq_2.{0}) (And.intro @Option.map.eq_1.{0,0} @Option.map.eq_2.{0,0}))) (And.intro (And.intro @List.map_nil.{0,0} (And.intro @List.filterMap_nil.{0,0} @Env.okB.eq_1)) (And.intro (And.intro @Hc @jba) (And.intro @ja9 @List.range.eq_1)))))) (And.intro (And.intro (And.intro (And.intro (And.intro @List.range.loop.eq_1 (And.intro @List.range.loop.eq_2 @List.all.eq_1.{0})) (And.intro (And.intro @List.all.eq_2.{0} @Prod.mk.injEq.{0,0}) (And.intro @beq_self_eq_true.{0} @Bool.and_true))) (And.intro (And.intro @Bool.true_and (And.intro @Bool.and_self @Bool.not_false)) (And.intro (And.intro @and_self @and_true) (And.intro @true_and @and_false)))) (And.intro (And.intro (And.intro @false_and (And.intro @puts.eq_def @resAV.eq_def)) (And.intro (And.intro @resCon.eq_def @RV.tv.eq_1) (And.intro @RV.tv.eq_2 @RV.tv.eq_3))) (And.intro (And.intro @RV.con.eq_def (And.intro @TV.av.eq_1 @TV.av.eq_2)) (And.intro (And.intro @TV.av.eq_3 @Option.bind.eq_1.{0,0}) (And.intro @Option.bind.eq_2.{0,0} @List.modify_zero_cons.{0}))))) (And.intro (And.intro (And.intro (And.intro @List.modify_succ_cons.{0} (And.intro @upds.eq_1 @upds.eq_2)) (And.intro (And.intro @Upd.on.eq_1 @Upd.on.eq_2) (And.intro @Upd.on.eq_3 @Z9))) (And.intro (And.intro @Z8 (And.intro @Uq @Up)) (And.intro (And.intro @Lz @List.length_cons.{0}) (And.intro @List.length_nil.{0} @Nat.add_zero)))) (And.intro (And.intro (And.intro @Nat.zero_add (And.intro @not_true_eq_false @not_false_eq_true)) (And.intro (And.intro @ne_eq.{1} @decide_true) (And.intro @decide_false @List.nil_append.{0}))) (And.intro (And.intro (And.intro @List.cons_append.{0} @List.append_nil.{0}) (And.intro @Nat.add_eq_zero_iff @Nat.succ_ne_zero)) (And.intro (And.intro @Bool.not_true @jdi) (And.intro @Bool.false_and @Bool.and_false))))))))
theorem ae:type_of% zBDbu1.down:=zBDbu1.down
def zBDbu2:=PLift.up ((And.intro (And.intro (And.intro (And.intro (And.intro (And.intro (And.intro @id_eq.{1} (And.intro @bldE.eq_1 @ownAnyE.eq_1)) (And.intro @ownAnyE.eq_2 (And.intro @AV.refB.eq_def @buildOE.eq_1))) (And.intro (And.intro @oPartsE.eq_1 (And.intro @oPartsE.eq_2 @oPartE.eq_def)) (And.intro @fillG.eq_1 (And.intro @fillG.eq_2 @setG.eq_1)))) (And.intro (And.intro (And.intro @setG.eq_2 (And.intro @movedC.eq_1 @movedC.eq_2)) (And.intro @movedC.eq_3 (And.intro @ownMoves.eq_1 @ownMoves.eq_2))) (And.intro (And.intro @ownMoves.eq_3 (And.intro @rootsB.eq_1 @rootsB.eq_2)) (And.intro (And.intro @rootsB.eq_3 @memN.eq_1) (And.intro @memN.eq_2 @initC.eq_1))))) (And.intro (And.intro (And.intro (And.intro @initC.eq_2 (And.intro @C.roC.eq_def @wholesE.eq_1)) (And.intro @wholesE.eq_2 (And.intro @capsE.eq_1 @capsE.eq_2))) (And.intro (And.intro @mkFnE.eq_1 (And.intro @fnOp.eq_1 @fnOf.eq_def)) (And.intro @sliceE.eq_1 (And.intro @slAvE.eq_def @bndE.eq_1)))) (And.intro (And.intro (And.intro @bndE.eq_2 (And.intro @bndOk.eq_1 @cutB.eq_1)) (And.intro @mmE.eq_1 (And.intro @mmAvE.eq_def @Env.whole.eq_1))) (And.intro (And.intro @boxpE.eq_1 (And.intro @boxpE.eq_2 @isBoxP.eq_def)) (And.intro (And.intro @rosE.eq_1 @rosE.eq_2) (And.intro @roE.eq_def @C.freeB.eq_def)))))) (And.intro (And.intro (And.intro (And.intro (And.intro @gX.eq_1 (And.intro @mvE.eq_def @mvAE.eq_def)) (And.intro @tconsE.eq_1 (And.intro @tconsE.eq_2 @dropsU.eq_1))) (And.intro (And.intro @dropsU.eq_2 (And.intro @listCon.eq_1 @listCon.eq_2)) (And.intro @Option.join.eq_1.{0} (And.intro @C.one.eq_def @Pm)))) (And.intro (And.intro (And.intro @Pn (And.intro @Nat.mul_one @Nat.zero_mul)) (And.intro @gopE.eq_1 (And.intro @gvE.eq_def @skipE.eq_1))) (And.intro (And.intro @skipE.eq_2 (And.intro @Option.some.injEq.{0} @opX.eq_def)) (And.intro (And.intro @appendE.eq_1 @apE.eq_def) (And.intro @apNilE.eq_1 @apNilE.eq_2))))) (And.intro (And.intro (And.intro (And.intro @apNilE.eq_3 (And.intro @apOwnE.eq_1 @apOwnE.eq_2)) (And.intro @apOwnE.eq_3 (And.intro @srcE.eq_def @bsE.eq_def))) (And.intro (And.intro @bs1E.eq_1 (And.intro @buildSliceE.eq_1 @moveSliceE.eq_def)) (And.intro @chunk.eq_1 (And.intro @chunk.eq_2 @zerosC.eq_1)))) (And.intro (And.intro (And.intro @zerosC.eq_2 (And.intro @Kv @Ku)) (And.intro @graftU.eq_1 (And.intro @graftU.eq_2 @List.replicate.eq_1.{0}))) (And.intro (And.intro @List.replicate.eq_2.{0} (And.intro @List.take_succ_cons.{0} @List.take_zero.{0})) (And.intro (And.intro @List.drop_succ_cons.{0} @List.drop_zero.{0}) (And.intro @List.take_nil.{0} @List.drop_nil.{0}))))))) (And.intro (And.intro (And.intro (And.intro (And.intro (And.intro @C.flat.eq_def (And.intro @buildE.eq_1 @partsE.eq_1)) (And.intro @partsE.eq_2 (And.intro @partOf.eq_def @placesOf.eq_1))) (And.intro (And.intro @placesOf.eq_2 (And.intro @fillC.eq_1 @fillC.eq_2)) (And.intro @setC.eq_1 (And.intro @setC.eq_2 @List.set_cons_zero.{0})))) (And.intro (And.intro (And.intro @List.set_cons_succ.{0} (And.intro @List.length_map.{0,0} @List.length_replicate.{0})) (And.intro @List.length_set.{0} (And.intro @moveE.eq_1 @assignE.eq_1))) (And.intro (And.intro @takeE.eq_def (And.intro @pickE.eq_1 @allocE.eq_1)) (And.intro (And.intro @boxE.eq_1 @loadE.eq_1) (And.intro @ldE.eq_def @storeE.eq_1))))) (And.intro (And.intro (And.intro (And.intro @storeE.eq_2 (And.intro @stE.eq_def @binE.eq_1)) (And.intro @unE.eq_1 (And.intro @fieldAddrE.eq_1 @faE.eq_def))) (And.intro (And.intro @indexAddrE.eq_1 (And.intro @iaE.eq_def @makeE.eq_1)) (And.intro @extractE.eq_def (And.intro @exE.eq_1 @exE.eq_2)))) (And.intro (And.intro (And.intro @exE.eq_3 (And.intro @exE.eq_4 @lenE.eq_1)) (And.intro @lnE.eq_def (And.intro @opE.eq_1 @opE.eq_2))) (And.intro (And.intro @opE.eq_3 (And.intro @opE.eq_4 @setE.eq_1)) (And.intro (And.intro @setE.eq_2 @outE.eq_1) (And.intro @boolE.eq_def @intE.eq_def)))))) (And.intro (And.intro (And.intro (And.intro (And.intro @plainE.eq_def (And.intro @bopE.eq_1 @iopE.eq_1)) (And.intro @popE.eq_1 (And.intro @subsE.eq_1 @subsE.eq_2))) (And.intro (And.intro @cellsE.eq_1 (And.intro @cellsE.eq_2 @argE.eq_def)) (And.intro @argsE.eq_1 (And.intro @argsE.eq_2 @holesU.eq_1)))) (And.intro (And.intro (And.intro @holesU.eq_2 (And.intro @putsU.eq_1 @putsU.eq_2)) (And.intro @cellsOf.eq_def (And.intro @roAll.eq_1 @roAll.eq_2))) (And.intro (And.intro @Hd.flat.eq_def (And.intro @slotView.eq_def @AV.plain.eq_def)) (And.intro (And.intro @constAV.eq_def @Env.hd.eq_1) (And.intro @Env.cell.eq_1 @Env.sub.eq_1))))) (And.intro (And.intro (And.intro (And.intro @Env.lookH.eq_1 (And.intro @Env.boxB.eq_1 @look.eq_def)) (And.intro @C.hd.eq_1 (And.intro @C.hd.eq_2 @C.hd.eq_3))) (And.intro (And.intro @C.hd.eq_4 (And.intro @C.ro.eq_def @Go.Value.oneCell'.eq_def)) (And.intro @binAV.eq_def (And.intro @boolV.eq_def @shV.eq_def)))) (And.intro (And.intro (And.intro @eqOffs.eq_1 (And.intro @eqOffs.eq_2 @binV.eq_def)) (And.intro @unV.eq_def (And.intro @List.getElem?_cons_zero.{0} @List.getElem?_cons_succ.{0}))) (And.intro (And.intro @Option.isSome_some.{0} (And.intro @Option.isSome_none.{0} @Bool.false_eq_true)) (And.intro (And.intro @List.all_cons.{0} @List.all_nil.{0}) (And.intro @Int.toNat_natCast @Zd)))))))))
theorem bu:type_of% zBDbu2.down:=zBDbu2.down
def zBDbu3:=PLift.up ((And.intro (And.intro (And.intro (And.intro @bndO.eq_1 (And.intro @bndO.eq_2 @tupO.eq_def)) (And.intro (And.intro @rowO.eq_def @elO.eq_def) (And.intro @bpO.eq_def @bpD.eq_def))) (And.intro (And.intro (And.intro @gOk.eq_1 @opOk.eq_def) (And.intro @rsO.eq_def @wsO.eq_1)) (And.intro (And.intro @wsO.eq_2 @ptrO.eq_def) (And.intro @hdO.eq_def @subO.eq_def)))) (And.intro (And.intro (And.intro (And.intro @noRef.eq_def @tkO.eq_def) (And.intro @putO.eq_def @exO.eq_def)) (And.intro (And.intro @plen.eq_def @Stat.hB.eq_1) (And.intro @Stat.pB.eq_1 @List.any_cons.{0}))) (And.intro (And.intro (And.intro @List.any_nil.{0} @List.contains_cons.{0}) (And.intro @List.contains_nil.{0} @Bool.true_or)) (And.intro (And.intro @Bool.or_true @Bool.false_or) (And.intro @Bool.or_false @bne_self_eq_false.{0}))))))
theorem qo:type_of% zBDbu3.down:=zBDbu3.down
section
variable {P:Program} {w0:Base} {Q:Exit → Env → Prop} {e:Env} {pa:Nat → Res → Prop} {st:Nat → Stat} {nn:Nat} {ds:List (Option Nat)} {ops:Array Oper} {K:Env → Prop}
theorem dR {id:Nat} (h:∀ K:Env → Prop,(∀ e',Q .normal e' → K e') → ej P nn ds ops.toList e K) (hn:e.n = nn:=by exact Li _ _ _) (hd:y6 ops = ds:=by (simp only [y6,List.toList_toArray,List.map_cons,List.map_nil]; exact rfl)):DW P w0 (.region id ops false) Q e:=Jr hn hd h
theorem cm {id:Nat} {l:List (Nat × Oper)} (st:Nat → Stat) (pa:Nat → Res → Prop) (h:∀ K:Env → Prop,(∀ e',Q .normal e' → K e') → mf P pa st nn ds ops l e K) (hn:e.n = nn:=by exact Li _ _ _) (hd:y6 ops = ds:=by (simp only [y6,List.toList_toArray,List.map_cons,List.map_nil]; exact rfl)) (hs:Iw 0 ops.toList = l:=by (simp only [List.toList_toArray,Iw,Nat.reduceAdd]; exact rfl)) (hm:P.follows .mixedOrders = true:=by kernel_rfl) (hreg:Wo ops st = true:=by kernel_rfl):DW P w0 (.region id ops true) Q e:=G4 st pa hn hd hs hm hreg h
theorem wK {y:Code} (ks:List Nat) {n:Nat} {sl:List (Nat × AV)} {cn:List (bh × Con)} (h:DW P w0 y Q (mkE n sl cn)) (hk:keepE e ks = mkE n sl cn:=by (simp only [ae,pZ,simprocAttr]; exact rfl)):v6 (DW P w0 y Q) Q .normal e:=bd ks hk h
theorem dI {c:Operand} {x y:Code} {b:Bool} (ht:b = true → DW P w0 x Q e) (hf:b = false → DW P w0 y Q e) (hc:Fp e c = some b:=by (simp only [Fp,ae,pZ,simprocAttr]; exact rfl)):DW P w0 (.cond c x y) Q e:=jcu hc ht hf
end
theorem eV {P:Program} {nn:Nat} {ds:List (Option Nat)} {o:Oper} {l:List Oper} {e:Env} {K:Env → Prop} {E1:Env} (h2:ej P nn ds l E1 K) (h0:At o.op = true:=by exact rfl) (h:gX P nn ds o e = some E1:=by (simp (disch:=first | omega | (intros; contradiction)) only [ae,bu,pZ,simprocAttr,dX]; exact rfl)):ej P nn ds (o :: l) e K:=cr h0 h h2
theorem cL {P:Program} {nn:Nat} {ds:List (Option Nat)} {o:Oper} {l:List Oper} {e:Env} {K:Env → Prop} {s:Nat} {f:FuncId} {args:List Operand} {gs:List Arg} {Post:Res → Prop} (hg:o.guard = none) (hc:ff o s f args) (hd:s < nn) (hm:ap P f = true) (hp:DCalls P f gs Post) (h2:∀ r,Post r → ej P nn ds l (e.set s (resAV r) fun i=>resCon r (0,i)) K) (ha:argsE e args = some gs:=by (simp (disch:=first | omega | (intros; contradiction)) only [ae,bu,pZ,simprocAttr,dX] <;> exact rfl)):ej P nn ds (o :: l) e K:=fb hg hc hd hm ha hp h2
theorem caF {P:Program} {nn:Nat} {ds:List (Option Nat)} {o:Oper} {l:List Oper} {e:Env} {K:Env → Prop} {s:Nat} {f:FuncId} {args:List Operand} {gs:List Arg} {Post:Res → Prop} (hg:o.guard = none) (hc:ff o s f args) (hd:s < nn) (hm:ap P f = true) (hp:dr P f gs Post) (h2:∀ r,Post r → ej P nn ds l (e.set s (resAV r) fun i=>resCon r (0,i)) K) (ha:argsE e args = some gs:=by (simp (disch:=first | omega | (intros; contradiction)) only [ae,bu,pZ,simprocAttr,dX] <;> exact rfl)) (hro:rosE e args = true:=by (simp (disch:=first | omega | (intros; contradiction)) only [ae,bu,pZ,simprocAttr,dX])):ej P nn ds (o :: l) e K:=Mo hg hc hd hm ha hro hp h2
theorem kg {P:Program} {nn:Nat} {ds:List (Option Nat)} {o:Oper} {l:List Oper} {e:Env} {K:Env → Prop} {s r g:Nat} {t:TypeId} {ys:List C} {f:FuncId} {x:Operand} {xs:List Operand} {gs:List Arg} {Post:Res → Prop} (hg:o.guard = none) (hc:ff o s f (x :: xs)) (hd:s < nn) (hm:ap P f = true) (hp:j3 P f t ys gs Post) (h2:∀ res,Post res → ej P nn ds l (upds (ioU r s res) e) K) (hx:boxpE (opE e x) = some (r,g):=by (simp (disch:=first | omega | (intros; contradiction)) only [ae,bu,pZ,simprocAttr,dX] <;> first | exact rfl | exact ⟨rfl,rfl⟩)) (hsr:s ≠ r:=by omega) (hw:e.whole r g = some (t,ys):=by (simp (disch:=first | omega | (intros; contradiction)) only [ae,bu,pZ,simprocAttr,dX] <;> first | exact rfl | exact ⟨rfl,rfl⟩)) (hno:xs.all (kp e r) = true:=by (simp (disch:=first | omega | (intros; contradiction)) only [kp,bne,ae,bu,pZ,simprocAttr,dX] <;> rfl)) (ha:argsE e xs = some gs:=by (simp (disch:=first | omega | (intros; contradiction)) only [ae,bu,pZ,simprocAttr,dX] <;> exact rfl)):ej P nn ds (o :: l) e K:=z6 hg hc hd hm hx hsr hw hno ha (.inl hp) h2
theorem qn {P:Program} {nn:Nat} {ds:List (Option Nat)} {o:Oper} {l:List Oper} {e:Env} {K:Env → Prop} {s r g:Nat} {t:TypeId} {ys:List C} {f:FuncId} {x:Operand} {xs:List Operand} {gs:List Arg} {Post:Res → Prop} (hg:o.guard = none) (hc:ff o s f (x :: xs)) (hd:s < nn) (hm:ap P f = true) (hp:dr P f (.io t ys :: gs) Post) (h2:∀ res,Post res → ej P nn ds l (upds (ioU r s res) e) K) (hx:boxpE (opE e x) = some (r,g):=by (simp (disch:=first | omega | (intros; contradiction)) only [ae,bu,pZ,simprocAttr,dX] <;> first | exact rfl | exact ⟨rfl,rfl⟩)) (hsr:s ≠ r:=by omega) (hw:e.whole r g = some (t,ys):=by (simp (disch:=first | omega | (intros; contradiction)) only [ae,bu,pZ,simprocAttr,dX] <;> first | exact rfl | exact ⟨rfl,rfl⟩)) (hno:xs.all (kp e r) = true:=by (simp (disch:=first | omega | (intros; contradiction)) only [kp,bne,ae,bu,pZ,simprocAttr,dX] <;> rfl)) (ha:argsE e xs = some gs:=by (simp (disch:=first | omega | (intros; contradiction)) only [ae,bu,pZ,simprocAttr,dX] <;> exact rfl)) (hro:rosE e xs = true:=by (simp (disch:=first | omega | (intros; contradiction)) only [ae,bu,pZ,simprocAttr,dX])):ej P nn ds (o :: l) e K:=z6 hg hc hd hm hx hsr hw hno ha (.inr ⟨hro,hp⟩) h2
theorem dV {P:Program} {pa:Nat → Res → Prop} {st:Nat → Stat} {nn:Nat} {ds:List (Option Nat)} {ops:Array Oper} {l:List (Nat × Oper)} {e:Env} {K:Env → Prop} {i:Nat} {o:Oper} {E1:Env} (h2:mf P pa st nn ds ops l E1 K) (hn:At o.op = true:=by exact rfl) (h0:gOk (st i) ds o e = true:=by (simp (disch:=first | omega | (intros; contradiction)) only [ae,bu,qo,pZ,simprocAttr,dX])) (h:gX P nn ds o e = some E1:=by (simp (disch:=first | omega | (intros; contradiction)) only [ae,bu,pZ,simprocAttr,dX]; exact rfl)):mf P pa st nn ds ops ((i,o) :: l) e K:=A6 hn h0 h h2
theorem dcF {P:Program} {pa:Nat → Res → Prop} {st:Nat → Stat} {nn:Nat} {ds:List (Option Nat)} {ops:Array Oper} {l:List (Nat × Oper)} {e:Env} {K:Env → Prop} {i:Nat} {o:Oper} {s:Nat} {f:FuncId} {args:List Operand} {gs:List Arg} {Post:Res → Prop} (hg:o.guard = none) (hc:ff o s f args) (hd:s < nn) (hm:ap P f = true) (hp:DCalls P f gs Post) (h2:∀ r,Post r → mf P pa st nn ds ops l (e.set s (resAV r) fun i=>resCon r (0,i)) K) (hw:(st i).ws.contains s = true:=by simp only [ae,bu,qo,pZ,simprocAttr,dX]) (hr:args.all (rsO (st i)) = true:=by simp only [ae,bu,qo,pZ,simprocAttr,dX]) (hsu:args.all (fun x=>subO (st i) (opE e x)) = true:=by simp only [ae,bu,qo,pZ,simprocAttr,dX]) (ha:argsE e args = some gs:=by (simp (disch:=first | omega | (intros; contradiction)) only [ae,bu,pZ,simprocAttr,dX] <;> exact rfl)) (hpa:Post = pa i:=by exact rfl) (hex:∃ r,Post r:=by exact ⟨_,rfl⟩):mf P pa st nn ds ops ((i,o) :: l) e K:=Fl hg hc hd hm hw hr hsu ha hp hpa hex h2
theorem rx {P:Program} {pa:Nat → Res → Prop} {st:Nat → Stat} {nn:Nat} {ds:List (Option Nat)} {ops:Array Oper} {l:List (Nat × Oper)} {e:Env} {K:Env → Prop} {i:Nat} {o:Oper} {s r g:Nat} {t:TypeId} {ys:List C} {f:FuncId} {x:Operand} {xs:List Operand} {gs:List Arg} {Post:Res → Prop} (hg:o.guard = none) (hc:ff o s f (x :: xs)) (hd:s < nn) (hm:ap P f = true) (hp:j3 P f t ys gs Post) (hex:∃ r,Post r) (h2:∀ r',Post r' → mf P pa st nn ds ops l (upds (ioU r s r') e) K) (hw:(st i).ws.contains s = true:=by simp only [ae,bu,qo,pZ,simprocAttr,dX]) (hrx:rsO (st i) x = true:=by simp only [ae,bu,qo,pZ,simprocAttr,dX]) (hr:xs.all (rsO (st i)) = true:=by simp only [ae,bu,qo,pZ,simprocAttr,dX]) (hsu:xs.all (fun x=>subO (st i) (opE e x)) = true:=by simp only [ae,bu,qo,pZ,simprocAttr,dX])  (hx:boxpE (opE e x) = some (r,g):=by (simp (disch:=first | omega | (intros; contradiction)) only [ae,bu,pZ,simprocAttr,dX] <;> first | exact rfl | exact ⟨rfl,rfl⟩)) (hsr:s ≠ r:=by omega) (hwh:e.whole r g = some (t,ys):=by (simp (disch:=first | omega | (intros; contradiction)) only [ae,bu,pZ,simprocAttr,dX] <;> first | exact rfl | exact ⟨rfl,rfl⟩)) (hno:xs.all (kp e r) = true:=by (simp (disch:=first | omega | (intros; contradiction)) only [kp,bne,ae,bu,pZ,simprocAttr,dX] <;> rfl)) (ha:argsE e xs = some gs:=by (simp (disch:=first | omega | (intros; contradiction)) only [ae,bu,pZ,simprocAttr,dX] <;> exact rfl)) (hrd:(st i).rd.contains r = true:=by kernel_rfl) (hpb:(st i).pB r 1 = true:=by kernel_rfl) (hpa:Post = pa i:=by exact rfl):mf P pa st nn ds ops ((i,o) :: l) e K:=zw hg hc hd hm hw hrx hrd hpb hr hsu hx hsr hwh hno ha (.inl hp) hpa hex h2
theorem jcv {P:Program} {pa:Nat → Res → Prop} {st:Nat → Stat} {nn:Nat} {ds:List (Option Nat)} {ops:Array Oper} {l:List (Nat × Oper)} {e:Env} {K:Env → Prop} {i:Nat} {o:Oper} {s r g:Nat} {t:TypeId} {ys:List C} {f:FuncId} {x:Operand} {xs:List Operand} {gs:List Arg} {Post:Res → Prop} (hg:o.guard = none) (hc:ff o s f (x :: xs)) (hd:s < nn) (hm:ap P f = true) (hp:dr P f (.io t ys :: gs) Post) (hex:∃ r,Post r) (h2:∀ r',Post r' → mf P pa st nn ds ops l (upds (ioU r s r') e) K) (hw:(st i).ws.contains s = true:=by simp only [ae,bu,qo,pZ,simprocAttr,dX]) (hrx:rsO (st i) x = true:=by simp only [ae,bu,qo,pZ,simprocAttr,dX]) (hr:xs.all (rsO (st i)) = true:=by simp only [ae,bu,qo,pZ,simprocAttr,dX]) (hsu:xs.all (fun x=>subO (st i) (opE e x)) = true:=by simp only [ae,bu,qo,pZ,simprocAttr,dX])  (hx:boxpE (opE e x) = some (r,g):=by (simp (disch:=first | omega | (intros; contradiction)) only [ae,bu,pZ,simprocAttr,dX] <;> first | exact rfl | exact ⟨rfl,rfl⟩)) (hsr:s ≠ r:=by omega) (hwh:e.whole r g = some (t,ys):=by (simp (disch:=first | omega | (intros; contradiction)) only [ae,bu,pZ,simprocAttr,dX] <;> first | exact rfl | exact ⟨rfl,rfl⟩)) (hno:xs.all (kp e r) = true:=by (simp (disch:=first | omega | (intros; contradiction)) only [kp,bne,ae,bu,pZ,simprocAttr,dX] <;> rfl)) (ha:argsE e xs = some gs:=by (simp (disch:=first | omega | (intros; contradiction)) only [ae,bu,pZ,simprocAttr,dX] <;> exact rfl)) (hro:rosE e xs = true:=by (simp (disch:=first | omega | (intros; contradiction)) only [ae,bu,pZ,simprocAttr,dX])) (hrd:(st i).rd.contains r = true:=by kernel_rfl) (hpb:(st i).pB r 1 = true:=by kernel_rfl) (hpa:Post = pa i:=by exact rfl):mf P pa st nn ds ops ((i,o) :: l) e K:=zw hg hc hd hm hw hrx hrd hpb hr hsu hx hsr hwh hno ha (.inr ⟨hro,hp⟩) hpa hex h2
theorem csF {P:Program} {nn:Nat} {ds:List (Option Nat)} {o:Oper} {l:List Oper} {e:Env} {K:Env → Prop} {E1:Env} (h2:ej P nn ds l E1 K) (h:gX P nn ds o e = some E1:=by (simp (disch:=first | omega | (intros; contradiction)) only [ae,bu,pZ,simprocAttr,dX]; exact rfl)):ej P nn ds (o :: l) e K:=Vn h h2
theorem cgF {P:Program} {nn:Nat} {ds:List (Option Nat)} {o:Oper} {l:List Oper} {e:Env} {K:Env → Prop} {j dj:Nat} {want:Bool} {s:Nat} {f:FuncId} {args:List Operand} {gs:List Arg} {Post:Res → Prop} (hg:o.guard = some (j,want)) (hj:ds[j]? = some (some dj)) (hc:ff o s f args) (hd:s < nn) (hm:ap P f = true) (hp:DCalls P f gs Post) (h2:∀ r,Post r → ej P nn ds l (e.set s (resAV r) fun i=>resCon r (0,i)) K) (hb:bopE e (.tmp dj) = some want:=by (simp (disch:=first | omega | (intros; contradiction)) only [ae,bu,pZ,simprocAttr,dX] <;> exact rfl)) (ha:argsE e args = some gs:=by (simp (disch:=first | omega | (intros; contradiction)) only [ae,bu,pZ,simprocAttr,dX] <;> exact rfl)):ej P nn ds (o :: l) e K:=Mn hg hj hb hc hd hm ha hp h2
theorem dxF {P:Program} {pa:Nat → Res → Prop} {st:Nat → Stat} {nn:Nat} {ds:List (Option Nat)} {ops:Array Oper} {l:List (Nat × Oper)} {e:Env} {K:Env → Prop} {i:Nat} {o:Oper} {s:Nat} {f:FuncId} {args:List Operand} {gs:List Arg} {Post:Res → Prop} (hg:o.guard = none) (hc:ff o s f args) (hd:s < nn) (hm:ap P f = true) (hp:DCalls P f gs Post) (hpa:Post = pa i) (hex:∃ r,Post r) (h2:∀ r,Post r → mf P pa st nn ds ops l (e.set s (resAV r) fun i=>resCon r (0,i)) K) (hw:(st i).ws.contains s = true:=by simp only [ae,bu,qo,pZ,simprocAttr,dX]) (hr:args.all (rsO (st i)) = true:=by simp only [ae,bu,qo,pZ,simprocAttr,dX]) (hsu:args.all (fun x=>subO (st i) (opE e x)) = true:=by simp only [ae,bu,qo,pZ,simprocAttr,dX]) (ha:argsE e args = some gs:=by (simp (disch:=first | omega | (intros; contradiction)) only [ae,bu,pZ,simprocAttr,dX] <;> exact rfl)):mf P pa st nn ds ops ((i,o) :: l) e K:=Fl hg hc hd hm hw hr hsu ha hp hpa hex h2
theorem giF {P:Program} {nn:Nat} {ds:List (Option Nat)} {o:Oper} {l:List Oper} {e:Env} {K:Env → Prop} {s r g r2 g2 n:Nat} {t:TypeId} {ys:List C} {ag:Bool} {cs:List C} {f:FuncId} {x x2:Operand} {xs:List Operand} {gs:List Arg} {Post:Res → Prop} (hg:o.guard = none) (hc:ff o s f (x :: x2 :: xs)) (hd:s < nn) (hm:ap P f = true) (hp:tc P f t ys ag cs gs Post) (h2:∀ res,Post res → ej P nn ds l (upds (ioU r s res) (e.holes r2 [(0,0)] n)) K) (hx:boxpE (opE e x) = some (r,g):=by (simp (disch:=first | omega | (intros; contradiction)) only [ae,bu,pZ,simprocAttr,dX] <;> first | exact rfl | exact ⟨rfl,rfl⟩)) (hsr:s ≠ r:=by omega) (hw:e.whole r g = some (t,ys):=by (simp (disch:=first | omega | (intros; contradiction)) only [ae,bu,pZ,simprocAttr,dX] <;> first | exact rfl | exact ⟨rfl,rfl⟩)) (hx2:opE e x2 = some (.ref r2 g2 [(0,0)] ag n):=by (simp (disch:=first | omega | (intros; contradiction)) only [ae,bu,pZ,simprocAttr,dX] <;> first | exact rfl | exact ⟨rfl,rfl,rfl,rfl⟩)) (hn:0 < n:=by omega) (hag:ag = false → n = 1:=by first | (intro h; cases h) | (intro; rfl)) (hsr2:s ≠ r2:=by omega) (hrr:r ≠ r2:=by omega) (hs:subsE e r2 g2 [(0,0)] n = some cs:=by (simp (disch:=first | omega | (intros; contradiction)) only [ae,bu,pZ,simprocAttr,dX] <;> exact rfl)) (hno:xs.all (kp e r) = true:=by (simp (disch:=first | omega | (intros; contradiction)) only [kp,bne,ae,bu,pZ,simprocAttr,dX] <;> rfl)) (hno2:xs.all (kp e r2) = true:=by (simp (disch:=first | omega | (intros; contradiction)) only [kp,bne,ae,bu,pZ,simprocAttr,dX] <;> rfl)) (hro:rosE e xs = true:=by (simp (disch:=first | omega | (intros; contradiction)) only [ae,bu,pZ,simprocAttr,dX])) (ha:argsE e xs = some gs:=by (simp (disch:=first | omega | (intros; contradiction)) only [ae,bu,pZ,simprocAttr,dX] <;> exact rfl)):ej P nn ds (o :: l) e K:=Hh hg hc hd hm hx hsr hw hx2 hn hag hsr2 hrr hs hno hno2 hro ha hp h2
theorem ioF {P:Program} {nn:Nat} {ds:List (Option Nat)} {l:List Oper} {e e':Env} {K:Env → Prop} (h2:ej P nn ds l e' K) (h:e = e':=by (simp only [ioU,putsU,upds,Upd.on,curC,Hc,Nat.zero_add,Nat.add_zero,Nat.reduceAdd,List.cons_append,List.nil_append]; exact rfl)):ej P nn ds l e K:=O5 h h2
theorem Xc {P:Program} {nn:Nat} {ds:List (Option Nat)} {l:List Oper} {e e':Env} {K:Env → Prop} (h2:ej P nn ds l e' K) (h:e = e':=by (simp only [Env.holes,ioU,putsU,upds,Upd.on,curC,Hc,Nat.zero_add,Nat.add_zero,Nat.reduceAdd,List.cons_append,List.nil_append]; exact rfl)):ej P nn ds l e K:=O5 h h2
theorem po {P:Program} {pa:Nat → Res → Prop} {st:Nat → Stat} {nn:Nat} {ds:List (Option Nat)} {ops:Array Oper} {l:List (Nat × Oper)} {e e':Env} {K:Env → Prop} (h2:mf P pa st nn ds ops l e' K) (h:e = e':=by (simp only [ioU,putsU,upds,Upd.on,curC,Hc,Nat.zero_add,Nat.add_zero,Nat.reduceAdd,List.cons_append,List.nil_append]; exact rfl)):mf P pa st nn ds ops l e K:=Xr h h2
theorem au {P:Program} {w0:Base} {Q:Exit → Env → Prop} {e:Env} {y:Code} (ks:List Nat) {n:Nat} {sl:List (Nat × AV)} {cn:List (bh × Con)} (h:DW P w0 y Q (mkE n sl cn)) (hk:keepE e ks = mkE n sl cn:=by (simp only [ae,pZ,simprocAttr,dK]; exact rfl)):DW P w0 y Q e:=wK ks h hk
theorem R5 {e:Env} (ks:List Nat) {n:Nat} {sl:List (Nat × AV)} {cn:List (bh × Con)} (hk:keepE e ks = mkE n sl cn:=by (simp only [ae,pZ,simprocAttr] <;> exact rfl)):Weak e (mkE n sl cn):=(ce _ ks).trans (Weak.of_eq hk)
theorem ay {e:Env} (ks:List Nat) {n:Nat} {sl:List (Nat × AV)} {cn:List (bh × Con)} (hk:keepE e ks = mkE n sl cn:=by (simp only [ae,pZ,simprocAttr,dK] <;> exact rfl)):Weak e (mkE n sl cn):=(ce _ ks).trans (Weak.of_eq hk)
end
section
open Go Go.RowKit
section
variable {w0:Base} {e:Env} {a:Act} {w:World} {val:Val} {S:Nat → Prop} {con:bh → Option Con}
theorem MemOk.nilAt (h:MemOk w con val S) {key:bh} {cn:Con} {t:aj} {T k:Nat} (hc:con key = some cn) (hl:look cn.xs t = some (.p (.slice none 0 0))) (hk0:0 < k) :
 MemOk w (cz con key t (.sl true T k [])) val S ∧ ∀ b key' p,OwnB (cz con key t (.sl true T k [])) val b key' p → OwnB con val b key' p:=by
 have hk:cz con key t (.sl true T k []) key = some { cn with xs:=puts cn.xs (.sl true T k []) t }:=by simp [cz,hc]
 have hn:∀ k',k' ≠ key → cz con key t (.sl true T k []) k' = con k':=fun k hk=>by simp [cz,hk]
 have hv:val key t = .slice none 0 0:=h.node _ _ _ _ hc hl
 have hnils:∀ (z:aj) (d:C),(C.sl true T k []).at z = some d → z = [] ∧ d = .sl true T k []:=fun z d hd=>by
  cases z with
  | nil=>rw [da] at hd; cases hd; exact ⟨rfl,rfl⟩
  | cons s z =>
   obtain ⟨t2,k2,rows2,c2,he2,h3,-⟩:=ei hd;cases he2;obtain ⟨r,g1,-⟩:=bi.1 h3;cases g1
 have hown:∀ b k' p,OwnB (cz con key t (.sl true T k [])) val b k' p → OwnB con val b k' p:=fun b k' p ho=>by
  by_cases hkk:k' = key
  ·subst hkk
   rcases ho with ⟨rfl,⟨t',xs',h2⟩,h3⟩ | ⟨cn',t',k2,rows',n',cap',h1,h2,h3⟩
   ·rw [hk] at h2;simp only [Option.some.injEq,Con.mk.injEq] at h2;refine .inl ⟨rfl,⟨t',cn.xs,?_⟩,h3⟩;rw [hc]; obtain ⟨bx,xs⟩:=cn; cases h2.1; rfl
   ·rw [hk] at h1;cases h1
    rcases e7 hl h2 with ⟨z,rfl,hz⟩ | ⟨hnt,⟨s,r,he,c1,h4,h5⟩ | ⟨h4,-⟩⟩
    ·obtain ⟨rfl,-⟩:=hnils _ _ hz;obtain ⟨o,h3⟩:=h3;rw [List.append_nil,hv] at h3;cases h3
    ·obtain ⟨rows2,rfl,-⟩:=Ge h5.symm;exact .inr ⟨cn,t',k2,rows2,n',cap',hc,h4,h3⟩
    ·exact .inr ⟨cn,t',k2,rows',n',cap',hc,h4,h3⟩
  ·exact ho.con (hn k' hkk).symm rfl
 refine ⟨⟨fun k' cn' p c h1 h2=>?_,fun k' t' xs' h1=>?_,fun b k p k' p' h1 h2=>h.inj b k p k' p' (hown _ _ _ h1) (hown _ _ _ h2),fun b hb=>⟨(h.sep b hb).1,fun k p h1=>(h.sep b hb).2 k p (hown _ _ _ h1)⟩⟩,hown⟩
 ·by_cases hkk:k' = key
  ·subst hkk;rw [hk] at h1;cases h1
   rcases e7 hl h2 with ⟨z,rfl,hz⟩ | ⟨hnt,⟨s,r,he,c1,h4,rfl⟩ | ⟨h4,-⟩⟩
   ·obtain ⟨rfl,rfl⟩:=hnils _ _ hz;rw [List.append_nil];exact ⟨hk0,fun _ hr=>by simp at hr,.inl ⟨rfl,hv⟩⟩
   ·exact (h.node k' cn p c1 hc h4).put
   ·exact h.node k' cn p c hc h4
  ·rw [hn k' hkk] at h1;exact h.node k' cn' p c h1 h2
 ·by_cases hkk:k' = key
  ·subst hkk;rw [hk] at h1;simp only [Option.some.injEq,Con.mk.injEq] at h1;obtain ⟨b,cur,g1,g2,g3,g4⟩:=h.root k' t' cn.xs (by rw [hc]; obtain ⟨bx,xs⟩:=cn; cases h1.1; rfl);rw [← h1.2];exact ⟨b,cur,g1,g2,by rw [dc]; exact g3,fun i hi=>g4 i (by rwa [dc] at hi)⟩
  ·rw [hn k' hkk] at h1;exact h.root k' t' xs' h1
theorem Bd {r T k:Nat} {p:aj} {cn:Con} (hc:e.con (r,0) = some cn) (hl:look cn.xs p = some (.p (.slice none 0 0))) (hk:0 < k):Weak e (e.put r p (.sl true T k [])):=fun w0 a w ⟨val,S,h⟩=>by
 obtain ⟨hm,ho⟩:=h.mem.nilAt (T:=T) hc hl hk;rw [← Np] at hm ho;exact ⟨val,S,h.sz,h.defers,hm,fun x=>(h.slot x).put (fun cn hcn=>ml e r p _ hcn) (fun i=>by simp [Env.put]) (fun _ _=>rfl) rfl rfl fun r1 g q hf=>⟨(sh _ _ _ _ hf).1,rfl⟩,h.frm,fun b k q hb=>h.low _ _ _ (ho b k q hb),h.rts,h.sS⟩
theorem su {P:Program} {y:Code} {Q:Exit → Env → Prop} {n:Nat} {Sl:List (Nat × AV)} {Cn:List (bh × Con)} {sl2:List (Nat × AV)} {cn2:List (bh × Con)} (r:Nat) (p:aj) (T k:Nat) (hk:0 < k) {cn:Con} (h:(mkE n Sl Cn).con (r,0) = some cn) (hl:look cn.xs p = some (.p (.slice none 0 0))) (ks:List Nat)
 (h2:keepE ((mkE n Sl Cn).put r p (.sl true T k [])) ks = mkE n sl2 cn2) (hd:DW P w0 y Q (mkE n sl2 cn2)):DW P w0 y Q (mkE n Sl Cn) :=
 gz (Bd h hl hk) (gz (ce _ ks) (by rw [h2]; exact hd))
theorem az {P:Program} {y:Code} {Q:Exit → Env → Prop} {n:Nat} {Sl:List (Nat × AV)} {Cn:List (bh × Con)} {sl2:List (Nat × AV)} {cn2:List (bh × Con)} (r i T k:Nat) (hk:0 < k) {cn:Con} (h:(mkE n Sl Cn).con (r,0) = some cn) (hl:cn.xs[i]? = some (.p (.slice none 0 0))) (ks:List Nat)
 (h2:keepE ((mkE n Sl Cn).put r [(0,i)] (.sl true T k [])) ks = mkE n sl2 cn2) (hd:DW P w0 y Q (mkE n sl2 cn2)):DW P w0 y Q (mkE n Sl Cn) :=
 su r [(0,i)] T k hk h (by rw [dv]; exact hl) ks h2 hd
end
end
section
open Go Go.RowKit
section
variable {P:Program} {pa:Nat → Res → Prop} {st:Nat → Stat} {nn:Nat} {ds:List (Option Nat)} {ops:Array Oper} {l:List (Nat × Oper)} {e E1:Env} {K:Env → Prop} {w0:Base} {Q:Exit → Env → Prop} {i:Nat} {o:Oper}
theorem Vm {l:List Oper} {e':Env} (r:Nat) (he:e.frz r = e') (k:ej P nn ds l e' K):ej P nn ds l e K:=Re (gf _ r) rfl (he ▸ k)
end
end
end Go.Proofs.YtfknckinfcicbaaGreat

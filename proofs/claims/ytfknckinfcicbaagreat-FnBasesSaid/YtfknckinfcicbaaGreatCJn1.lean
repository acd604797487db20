/- Parts of the proof. -/
import Derived.Test.YtfknckinfcicbaaGreatCJn0
import Derived.StillTail
set_option linter.unusedSimpArgs false
set_option linter.unusedVariables false
namespace Go.Proofs.YtfknckinfcicbaaGreat
section
open Go Go.RowKit
inductive Arg where
 | c (x:C)
 | agg (xs:List C)
 | io (t:TypeId) (xs:List C)
 | own (ag:Bool) (xs:List C)
 | fn (g:FuncId) (css:List (List C))
 | rp (xs:List C)
inductive RV where
 | c (x:C)
 | agg (xs:List C)
 | own (ag:Bool) (xs:List C)
abbrev Res:=List RV
def RV.tv:RV → TV
 | .c x=>.c x
 | .agg xs=>.agg xs
 | .own ag xs=>.own ag xs.length
def RV.con:RV → Option Con
 | .own _ xs=>some ⟨none,xs⟩
 | _=>none
def TV.av:TV → AV
 | .c x=>.c x
 | .agg xs=>.agg xs
 | .own ag n=>.own ag n
inductive Upd where
 | set (d:Nat) (av:AV) (cs:Nat → Option Con)
 | put (r:Nat) (p:aj) (y:C)
 | drop (s i:Nat)
def Env.drop (e:Env) (s i:Nat):Env:={ e with con:=fun key=>if key = (s,i + 1) then none else e.con key }
def Upd.on:Upd → Env → Env
 | .set d av cs,e=>e.set d av cs
 | .put r p y,e=>e.put r p y
 | .drop s i,e=>e.drop s i
def upds:List Upd → Env → Env
 | [],e=>e
 | u :: us,e=>upds us (u.on e)
def Env.view (e:Env) (s:Nat):AV:=match e.s s with
 | .own ag n=>.ref s (e.gen s) [(0,0)] ag n
 | .box=>.ptr s (e.gen s) [(0,0)] 0
 | av=>av
def Env.okB (e:Env) (r g:Nat) (p:aj):Bool:=e.gen r == g && (e.dirty r).all fun d=>!d.isPrefixOf p
def Env.lookH (e:Env) (r:Nat) (p:aj):Option Hd:=match e.con (r,0) with
 | some cn=>(look cn.xs p).map C.hd
 | none=>none
def Env.hd (e:Env) (r g:Nat) (p:aj):Option Hd:=if e.okB r g p = true then e.lookH r p else none
def Env.boxB (e:Env) (r:Nat):Bool:=match e.con (r,0) with
 | some cn=>cn.box.isSome
 | none=>false
def Env.cell (e:Env) (r g:Nat) (p:aj) (k:Nat):Option Hd :=
 if e.okB r g p.dropLast = true then (match p.dropLast with
  | []=>if e.boxB r = true then e.lookH r p else none
  | p'=>match e.lookH r p' with
   | some (.own _ k' _)=>if k' = k then e.lookH r p else none
   | _=>none) else none
def Env.sub (e:Env) (r g:Nat) (p:aj):Option C:=if e.okB r g p = true then (match e.con (r,0) with
 | some cn=>look cn.xs p
 | none=>none) else none
def Env.whole (e:Env) (r g:Nat):Option (TypeId × List C):=if e.okB r g [] = true then (match e.con (r,0) with
 | some ⟨some t,xs⟩=>some (t,xs)
 | _=>none) else none
inductive Q where
 | fail
 | slot (s:Nat) (k:AV → Q)
 | hd (r g:Nat) (p:aj) (k:Option Hd → Q)
 | cell (r g:Nat) (p:aj) (kk:Nat) (k:Option Hd → Q)
 | sub (r g:Nat) (p:aj) (k:Option C → Q)
 | tcon (s i:Nat) (k:Option Con → Q)
 | whole (r g:Nat) (k:Option (TypeId × List C) → Q)
 | alt (x y:Q)
 | ups (us:List Upd)
 | call (f:FuncId) (ro:Bool) (args:List Arg) (us:Res → List Upd)
structure Stat where
 rs:List Nat
 rh:List (Nat × Nat)
 rd:List Nat
 ws:List Nat
 wp:List (Nat × Nat)
 tk:List bh
def Stat.hB (t:Stat) (r d:Nat):Bool:=t.rh.any fun x=>x.1 == r && decide (d ≤ x.2)
def Stat.pB (t:Stat) (r d:Nat):Bool:=t.wp.any fun x=>x.1 == r && decide (x.2 ≤ d)
def Upd.okB (t:Stat):Upd → Bool
 | .set d _ _=>t.ws.contains d
 | .put r p _=>t.pB r p.length
 | .drop s i=>t.tk.contains (s,i + 1)
abbrev Cts:=FuncId → Bool → List Arg → (Res → Prop) → Prop
def ah (ct:Cts) (t:Option Stat):Q → Env → (Env → Prop) → Prop
 | .fail,_,_=>False
 | .slot s k,e,K=>(∀ x,t = some x → x.rs.contains s = true) ∧ ah ct t (k (e.view s)) e K
 | .hd r g p k,e,K=>(∀ x,t = some x → x.hB r p.length = true) ∧ ah ct t (k (e.hd r g p)) e K
 | .cell r g p kk k,e,K=>(∀ x,t = some x → x.hB r p.length = true) ∧ ah ct t (k (e.cell r g p kk)) e K
 | .sub r g p k,e,K=>(∀ x,t = some x → x.rd.contains r = true) ∧ ah ct t (k (e.sub r g p)) e K
 | .tcon s i k,e,K=>(∀ x,t = some x → x.tk.contains (s,i + 1) = true) ∧ ah ct t (k (e.con (s,i + 1))) e K
 | .whole r g k,e,K=>(∀ x,t = some x → x.rd.contains r = true) ∧ ah ct t (k (e.whole r g)) e K
 | .alt x y,e,K=>ah ct t x e K ∨ (t = none ∧ ah ct t y e K)
 | .ups us,e,K=>(∀ x,t = some x → us.all (Upd.okB x) = true) ∧ K (upds us e)
 | .call f ro args us,e,K=>∃ Post,ct f ro args Post ∧ ∀ r,Post r → (∀ x,t = some x → (us r).all (Upd.okB x) = true) ∧ K (upds (us r) e)
theorem ez {ct:Cts} {t:Option Stat} {e:Env} {K K':Env → Prop} (hK:∀ e,K e → K' e):∀ (q:Q),ah ct t q e K → ah ct t q e K'
 | .fail,h=>h
 | .slot s k,h=>⟨h.1,ez hK _ h.2⟩
 | .hd r g p k,h=>⟨h.1,ez hK _ h.2⟩
 | .cell r g p kk k,h=>⟨h.1,ez hK _ h.2⟩
 | .sub r g p k,h=>⟨h.1,ez hK _ h.2⟩
 | .tcon s i k,h=>⟨h.1,ez hK _ h.2⟩
 | .whole r g k,h=>⟨h.1,ez hK _ h.2⟩
 | .alt x y,h=>h.imp (ez hK x) fun h=>⟨h.1,ez hK y h.2⟩
 | .ups us,h=>⟨h.1,hK _ h.2⟩
 | .call f ro args us,h=>let ⟨Post,h1,h2⟩:=h; ⟨Post,h1,fun r hr=>⟨(h2 r hr).1,hK _ (h2 r hr).2⟩⟩
def Stat.noRW (i j:Stat):Bool :=
 (i.rs.all fun s=>!j.ws.contains s) &&
 (i.rh.all fun x=>!j.ws.contains x.1 && j.wp.all fun y=>x.1 != y.1 || decide (x.2 < y.2)) &&
 (i.rd.all fun r=>!j.ws.contains r && j.wp.all fun y=>r != y.1) &&
 (i.tk.all fun k=>!j.tk.contains k && !j.ws.contains k.1)
def Stat.noWW (i j:Stat):Bool :=
 (i.ws.all fun s=>!j.ws.contains s) && (i.ws.all fun s=>j.wp.all fun y=>s != y.1) && (j.ws.all fun s=>i.wp.all fun y=>s != y.1) &&
 (i.wp.all fun x=>j.wp.all fun y=>x.1 != y.1) && (i.ws.all fun s=>j.tk.all fun k=>s != k.1) && (j.ws.all fun s=>i.tk.all fun k=>s != k.1)
def Stat.apart (i j:Stat):Bool:=i.noRW j && j.noRW i && i.noWW j
theorem sm {e e':Env} {r g:Nat} {p:aj} (hg:e'.gen r = e.gen r) (hd:e'.dirty r = e.dirty r):e'.okB r g p = e.okB r g p:=by
 unfold Env.okB; rw [hg,hd]
theorem rm {e e':Env} {r:Nat} {p:aj} (hc:e'.con (r,0) = e.con (r,0)):e'.lookH r p = e.lookH r p:=by
 unfold Env.lookH; rw [hc]
theorem Qi (e:Env) {r:Nat} {p q:aj} {y:C} (h:q.length < p.length):(e.put r p y).lookH r q = e.lookH r q:=by
 unfold Env.lookH Env.put;simp only [if_pos]
 cases e.con (r,0) with
 | none=>rfl
 | some cn=>exact Nn fun hh=>by have:=hh.length_le; omega
theorem Ww (e:Env) {r g:Nat} {p q:aj} {y:C} (h:q.length < p.length):(e.put r p y).okB r g q = e.okB r g q:=by
 unfold Env.okB Env.put;simp only [if_pos,List.all_cons]
 have:p.isPrefixOf q = false:=by
  rw [Bool.eq_false_iff];intro hh;have:=(List.isPrefixOf_iff_prefix.1 hh).length_le;omega
 simp [this]
theorem Vd (e:Env) (r:Nat) (p:aj) (y:C):(e.put r p y).boxB r = e.boxB r:=by
 unfold Env.boxB Env.put;simp only [if_pos];cases e.con (r,0) <;> rfl
theorem Uh {e e':Env} {r g:Nat} {p:aj} (h1:e'.okB r g p = e.okB r g p) (h2:e'.lookH r p = e.lookH r p):e'.hd r g p = e.hd r g p:=by
 unfold Env.hd; rw [h1,h2]
theorem Mh {e e':Env} {r g:Nat} {p:aj} {k:Nat} (h1:e'.okB r g p.dropLast = e.okB r g p.dropLast) (h2:e'.lookH r p = e.lookH r p) (h3:e'.lookH r p.dropLast = e.lookH r p.dropLast) (h4:e'.boxB r = e.boxB r):e'.cell r g p k = e.cell r g p k:=by
 unfold Env.cell;rw [h1];split
 ·split
  ·rw [h4,h2]
  ·rw [h3,h2]
 ·rfl
section
variable {i j:Stat} {u:Upd} {e:Env}
theorem bm {α:Type} [BEq α] [LawfulBEq α] {l:List α} {x:α} (h:l.contains x = true):x ∈ l:=by simpa using h
theorem Stat.hB_iff {t:Stat} {r d:Nat}:t.hB r d = true ↔ ∃ d',(r,d') ∈ t.rh ∧ d ≤ d':=by
 unfold Stat.hB;rw [List.any_eq_true];constructor
 ·rintro ⟨⟨r',d'⟩,hm,h⟩;simp at h;obtain ⟨rfl,h⟩:=h;exact ⟨d',hm,h⟩
 ·rintro ⟨d',hm,h⟩;exact ⟨_,hm,by simpa using h⟩
theorem Stat.pB_iff {t:Stat} {r d:Nat}:t.pB r d = true ↔ ∃ d',(r,d') ∈ t.wp ∧ d' ≤ d:=by
 unfold Stat.pB;rw [List.any_eq_true];constructor
 ·rintro ⟨⟨r',d'⟩,hm,h⟩;simp at h;obtain ⟨rfl,h⟩:=h;exact ⟨d',hm,h⟩
 ·rintro ⟨d',hm,h⟩;exact ⟨_,hm,by simpa using h⟩
theorem n7 (h:i.noRW j = true):(∀ s,s ∈ i.rs → s ∉ j.ws) ∧ (∀ r d,(r,d) ∈ i.rh → r ∉ j.ws ∧ ∀ r' d',(r',d') ∈ j.wp → r = r' → d < d') ∧ (∀ r,r ∈ i.rd → r ∉ j.ws ∧ ∀ r' d',(r',d') ∈ j.wp → r ≠ r') ∧ (∀ k,k ∈ i.tk → k ∉ j.tk ∧ k.1 ∉ j.ws):=by
 unfold Stat.noRW at h;simp only [Bool.and_eq_true,List.all_eq_true,Bool.not_eq_true',List.contains_eq_mem,decide_eq_false_iff_not,Bool.or_eq_true,bne_iff_ne,decide_eq_true_eq] at h;obtain ⟨⟨⟨h1,h2⟩,h3⟩,h4⟩:=h;refine ⟨h1,fun r d hm=>⟨(h2 _ hm).1,fun r' d' hm' he=>?_⟩,fun r hm=>⟨(h3 _ hm).1,fun r' d' hm'=>(h3 _ hm).2 _ hm'⟩,h4⟩
 rcases (h2 _ hm).2 _ hm' with h5 | h5
 ·exact absurd he h5
 ·exact h5
theorem Wb (h:i.noRW j = true) (hu:u.okB j = true) {s:Nat} (hs:i.rs.contains s = true):(u.on e).view s = e.view s:=by
 obtain ⟨h1,-⟩:=n7 h
 cases u with
 | set d av cs =>
  have:s ≠ d:=fun he=>h1 s (bm hs) (he ▸ bm hu);simp [Upd.on,Env.view,Env.set,this]
 | put r p y=>rfl
 | drop s' i=>rfl
theorem ja7 (h:i.noRW j = true) (hu:u.okB j = true) {s n:Nat} (hs:i.tk.contains (s,n + 1) = true):(u.on e).con (s,n + 1) = e.con (s,n + 1):=by
 obtain ⟨-,-,-,h1⟩:=n7 h;have h2:=h1 _ (bm hs)
 cases u with
 | set d av cs =>
  have:s ≠ d:=fun he=>h2.2 (he ▸ bm hu);simp [Upd.on,Env.set,this]
 | put r p y=>simp [Upd.on,Env.put]
 | drop s' i' =>
  have:(s,n + 1) ≠ (s',i' + 1):=fun he=>h2.1 (he ▸ bm hu);simp only [Upd.on,Env.drop,if_neg this]
theorem Ok (h:i.noRW j = true) (hu:u.okB j = true) {r d:Nat} (hr:i.hB r d = true):(∀ g q,q.length ≤ d → (u.on e).okB r g q = e.okB r g q) ∧ (∀ q,q.length ≤ d → (u.on e).lookH r q = e.lookH r q) ∧ (u.on e).boxB r = e.boxB r:=by
 obtain ⟨-,h1,-⟩:=n7 h;obtain ⟨d0,hm,hd⟩:=Stat.hB_iff.1 hr;obtain ⟨h2,h3⟩:=h1 r d0 hm
 cases u with
 | set d' av cs =>
  have:r ≠ d':=fun he=>h2 (he ▸ bm hu);refine ⟨fun g q _=>sm (by simp [Upd.on,Env.set,this]) (by simp [Upd.on,Env.set,this]),fun q _=>rm (by simp [Upd.on,Env.set,this]),?_⟩;simp [Upd.on,Env.boxB,Env.set,this]
 | put r' p y =>
  by_cases hr:r = r'
  ·subst hr;obtain ⟨d1,hm1,hd1⟩:=Stat.pB_iff.1 hu;have:=h3 r d1 hm1 rfl;exact ⟨fun g q hq=>Ww e (by omega),fun q hq=>Qi e (by omega),Vd e r p y⟩
  ·refine ⟨fun g q _=>sm rfl (by simp [Upd.on,Env.put,hr]),fun q _=>rm (by simp [Upd.on,Env.put,hr]),?_⟩;simp [Upd.on,Env.boxB,Env.put,hr]
 | drop s' i' =>
  refine ⟨fun g q _=>rfl,fun q _=>rm (by simp [Upd.on,Env.drop]),?_⟩;simp [Upd.on,Env.boxB,Env.drop]
theorem Ze (h:i.noRW j = true) (hu:u.okB j = true) {r g:Nat} {p:aj} (hr:i.rd.contains r = true):(u.on e).sub r g p = e.sub r g p:=by
 obtain ⟨-,-,h1,-⟩:=n7 h;obtain ⟨h2,h3⟩:=h1 r (bm hr)
 have key:(u.on e).gen r = e.gen r ∧ (u.on e).dirty r = e.dirty r ∧ (u.on e).con (r,0) = e.con (r,0):=by
  cases u with
  | set d' av cs =>
   have:r ≠ d':=fun he=>h2 (he ▸ bm hu);simp [Upd.on,Env.set,this]
  | put r' p y =>
   obtain ⟨d1,hm1,-⟩:=Stat.pB_iff.1 hu;have:r ≠ r':=h3 r' d1 hm1;simp [Upd.on,Env.put,this]
  | drop s' i'=>simp [Upd.on,Env.drop]
 unfold Env.sub;rw [sm key.1 key.2.1,key.2.2]
theorem R2 (h:i.noRW j = true) (hu:u.okB j = true) {r g:Nat} (hr:i.rd.contains r = true):(u.on e).whole r g = e.whole r g:=by
 obtain ⟨-,-,h1,-⟩:=n7 h;obtain ⟨h2,h3⟩:=h1 r (bm hr)
 have key:(u.on e).gen r = e.gen r ∧ (u.on e).dirty r = e.dirty r ∧ (u.on e).con (r,0) = e.con (r,0):=by
  cases u with
  | set d' av cs =>
   have:r ≠ d':=fun he=>h2 (he ▸ bm hu);simp [Upd.on,Env.set,this]
  | put r' p' y =>
   obtain ⟨d1,hm1,-⟩:=Stat.pB_iff.1 hu;have:r ≠ r':=h3 r' d1 hm1;simp [Upd.on,Env.put,this]
  | drop s' i'=>simp [Upd.on,Env.drop]
 unfold Env.whole;rw [sm key.1 key.2.1,key.2.2]
theorem xy {j:Stat} {us:List Upd} {α:Type} {f:Env → α} (h:∀ u:Upd,u.okB j = true → ∀ e,f (u.on e) = f e):us.all (Upd.okB j) = true → ∀ e,f (upds us e) = f e:=by
 induction us with
 | nil=>intro _ e; rfl
 | cons u us ih =>
  intro hu e;simp only [List.all_cons,Bool.and_eq_true] at hu;show f (upds us (u.on e)) = _;rw [ih hu.2,h u hu.1]
end
def Out (ct:Cts) (t:Stat):Q → Env → (List Upd → Prop) → Prop
 | .fail,_,_=>False
 | .slot s k,e,O=>t.rs.contains s = true ∧ Out ct t (k (e.view s)) e O
 | .hd r g p k,e,O=>t.hB r p.length = true ∧ Out ct t (k (e.hd r g p)) e O
 | .cell r g p kk k,e,O=>t.hB r p.length = true ∧ Out ct t (k (e.cell r g p kk)) e O
 | .sub r g p k,e,O=>t.rd.contains r = true ∧ Out ct t (k (e.sub r g p)) e O
 | .tcon s i k,e,O=>t.tk.contains (s,i + 1) = true ∧ Out ct t (k (e.con (s,i + 1))) e O
 | .whole r g k,e,O=>t.rd.contains r = true ∧ Out ct t (k (e.whole r g)) e O
 | .alt x _,e,O=>Out ct t x e O
 | .ups us,_,O=>O = fun x=>x = us
 | .call f ro args us,_,O=>∃ Post,ct f ro args Post ∧ O = fun x=>∃ r,Post r ∧ x = us r
theorem f0 {ct:Cts} {t:Stat} {e:Env} {K:Env → Prop}:∀ (q:Q),ah ct (some t) q e K ↔ ∃ O,Out ct t q e O ∧ ∀ us,O us → us.all (Upd.okB t) = true ∧ K (upds us e)
 | .fail=>⟨fun h=>h.elim,fun ⟨_,h,_⟩=>h.elim⟩
 | .slot s k=>by
  simp only [ah,Out,f0 (k (e.view s)),Option.some.injEq,forall_eq'];exact ⟨fun ⟨h1,O,h2,h3⟩=>⟨O,⟨h1,h2⟩,h3⟩,fun ⟨O,⟨h1,h2⟩,h3⟩=>⟨h1,O,h2,h3⟩⟩
 | .hd r g p k=>by
  simp only [ah,Out,f0 (k (e.hd r g p)),Option.some.injEq,forall_eq'];exact ⟨fun ⟨h1,O,h2,h3⟩=>⟨O,⟨h1,h2⟩,h3⟩,fun ⟨O,⟨h1,h2⟩,h3⟩=>⟨h1,O,h2,h3⟩⟩
 | .cell r g p kk k=>by
  simp only [ah,Out,f0 (k (e.cell r g p kk)),Option.some.injEq,forall_eq'];exact ⟨fun ⟨h1,O,h2,h3⟩=>⟨O,⟨h1,h2⟩,h3⟩,fun ⟨O,⟨h1,h2⟩,h3⟩=>⟨h1,O,h2,h3⟩⟩
 | .sub r g p k=>by
  simp only [ah,Out,f0 (k (e.sub r g p)),Option.some.injEq,forall_eq'];exact ⟨fun ⟨h1,O,h2,h3⟩=>⟨O,⟨h1,h2⟩,h3⟩,fun ⟨O,⟨h1,h2⟩,h3⟩=>⟨h1,O,h2,h3⟩⟩
 | .tcon s n k=>by
  simp only [ah,Out,f0 (k (e.con (s,n + 1))),Option.some.injEq,forall_eq'];exact ⟨fun ⟨h1,O,h2,h3⟩=>⟨O,⟨h1,h2⟩,h3⟩,fun ⟨O,⟨h1,h2⟩,h3⟩=>⟨h1,O,h2,h3⟩⟩
 | .whole r g k=>by
  simp only [ah,Out,f0 (k (e.whole r g)),Option.some.injEq,forall_eq'];exact ⟨fun ⟨h1,O,h2,h3⟩=>⟨O,⟨h1,h2⟩,h3⟩,fun ⟨O,⟨h1,h2⟩,h3⟩=>⟨h1,O,h2,h3⟩⟩
 | .alt x y=>by
  simp only [ah,Out,reduceCtorEq,false_and,or_false];exact f0 x
 | .ups us=>by
  simp only [ah,Out,Option.some.injEq,forall_eq'];exact ⟨fun h=>⟨_,rfl,fun us' h'=>by subst h'; exact h⟩,fun ⟨O,h1,h2⟩=>h2 us (by rw [h1])⟩
 | .call f ro args us=>by
  simp only [ah,Out,Option.some.injEq,forall_eq'];exact ⟨fun ⟨Post,h1,h2⟩=>⟨_,⟨Post,h1,rfl⟩,fun us' ⟨r,hr,he⟩=>by subst he; exact h2 r hr⟩,fun ⟨O,⟨Post,h1,h2⟩,h3⟩=>⟨Post,h1,fun r hr=>h3 (us r) (by rw [h2]; exact ⟨r,hr,rfl⟩)⟩⟩
def O7 (ct:Cts):Prop:=∀ f ro args P P',ct f ro args P → ct f ro args P' → P = P'
def Hj (ct:Cts):Prop:=∀ f ro args P,ct f ro args P → ∃ r,P r
theorem Out.uniq {ct:Cts} {t:Stat} {e:Env} (hct:O7 ct):∀ (q:Q) {O O':List Upd → Prop},Out ct t q e O → Out ct t q e O' → O = O'
 | .fail,_,_,h,_=>h.elim
 | .slot _ _,_,_,h,h'=>Out.uniq hct _ h.2 h'.2
 | .hd _ _ _ _,_,_,h,h'=>Out.uniq hct _ h.2 h'.2
 | .cell _ _ _ _ _,_,_,h,h'=>Out.uniq hct _ h.2 h'.2
 | .sub _ _ _ _,_,_,h,h'=>Out.uniq hct _ h.2 h'.2
 | .tcon _ _ _,_,_,h,h'=>Out.uniq hct _ h.2 h'.2
 | .whole _ _ _,_,_,h,h'=>Out.uniq hct _ h.2 h'.2
 | .alt x _,_,_,h,h'=>Out.uniq hct x h h'
 | .ups _,_,_,h,h'=>by rw [h,h']
 | .call f ro args us,_,_,⟨P,h1,h2⟩,⟨P',h3,h4⟩=>by rw [h2,h4,hct f ro args P P' h1 h3]
theorem Out.some {ct:Cts} {t:Stat} {e:Env} (hct:Hj ct):∀ (q:Q) {O:List Upd → Prop},Out ct t q e O → ∃ us,O us
 | .fail,_,h=>h.elim
 | .slot _ _,_,h=>Out.some hct _ h.2
 | .hd _ _ _ _,_,h=>Out.some hct _ h.2
 | .cell _ _ _ _ _,_,h=>Out.some hct _ h.2
 | .sub _ _ _ _,_,h=>Out.some hct _ h.2
 | .tcon _ _ _,_,h=>Out.some hct _ h.2
 | .whole _ _ _,_,h=>Out.some hct _ h.2
 | .alt x _,_,h=>Out.some hct x h
 | .ups us,_,h=>⟨us,by rw [h]⟩
 | .call f ro args us,_,⟨P,h1,h2⟩=>let ⟨r,hr⟩:=hct f ro args P h1; ⟨us r,by rw [h2]; exact ⟨r,hr,rfl⟩⟩
theorem Out.on {ct:Cts} {i j:Stat} (h:i.noRW j = true) {us:List Upd} (hu:us.all (Upd.okB j) = true) {e:Env}:∀ (q:Q) (O:List Upd → Prop),Out ct i q (upds us e) O ↔ Out ct i q e O
 | .fail,_=>Iff.rfl
 | .slot s k,O=>by
  simp only [Out];refine and_congr_right fun hs=>?_;rw [xy (f:=fun e=>e.view s) (fun u hu e=>Wb h hu hs) hu e];exact Out.on h hu _ O
 | .hd r g p k,O=>by
  simp only [Out];refine and_congr_right fun hs=>?_
  rw [xy (f:=fun e=>e.hd r g p) (fun u hu e=>by
   obtain ⟨h3,h4,-⟩:=Ok (e:=e) h hu hs
   exact Uh (h3 g p (Nat.le_refl _)) (h4 p (Nat.le_refl _))) hu e]
  exact Out.on h hu _ O
 | .cell r g p kk k,O=>by
  simp only [Out];refine and_congr_right fun hs=>?_
  rw [xy (f:=fun e=>e.cell r g p kk) (fun u hu e=>by
   obtain ⟨h3,h4,h5⟩:=Ok (e:=e) h hu hs;have hl:p.dropLast.length ≤ p.length:=by simp
   exact Mh (h3 g _ hl) (h4 p (Nat.le_refl _)) (h4 _ hl) h5) hu e]
  exact Out.on h hu _ O
 | .sub r g p k,O=>by
  simp only [Out];refine and_congr_right fun hs=>?_;rw [xy (f:=fun e=>e.sub r g p) (fun u hu e=>Ze h hu hs) hu e];exact Out.on h hu _ O
 | .tcon s n k,O=>by
  simp only [Out];refine and_congr_right fun hs=>?_;rw [xy (f:=fun e=>e.con (s,n + 1)) (fun u hu e=>ja7 h hu hs) hu e];exact Out.on h hu _ O
 | .whole r g k,O=>by
  simp only [Out];refine and_congr_right fun hs=>?_;rw [xy (f:=fun e=>e.whole r g) (fun u hu e=>R2 h hu hs) hu e];exact Out.on h hu _ O
 | .alt x _,O=>Out.on h hu x O
 | .ups us',O=>Iff.rfl
 | .call f ro args us',O=>Iff.rfl
theorem P8 {i j:Stat} (h:i.noWW j = true):(∀ s,s ∈ i.ws → s ∉ j.ws) ∧ (∀ s r d,s ∈ i.ws → (r,d) ∈ j.wp → s ≠ r) ∧ (∀ s r d,s ∈ j.ws → (r,d) ∈ i.wp → s ≠ r) ∧ (∀ r d r' d',(r,d) ∈ i.wp → (r',d') ∈ j.wp → r ≠ r') ∧ (∀ s k,s ∈ i.ws → k ∈ j.tk → s ≠ k.1) ∧ (∀ s k,s ∈ j.ws → k ∈ i.tk → s ≠ k.1):=by
 unfold Stat.noWW at h;simp only [Bool.and_eq_true,List.all_eq_true,Bool.not_eq_true',List.contains_eq_mem,decide_eq_false_iff_not,bne_iff_ne] at h;obtain ⟨⟨⟨⟨⟨h1,h2⟩,h3⟩,h4⟩,h5⟩,h6⟩:=h;exact ⟨h1,fun s r d a b=>h2 s a _ b,fun s r d a b=>h3 s a _ b,fun r d r' d' a b=>h4 _ a _ b,fun s k a b=>h5 s a k b,fun s k a b=>h6 s a k b⟩
theorem Env.ext' {a b:Env} (h1:a.n = b.n) (h2:∀ s,a.s s = b.s s) (h3:∀ k,a.con k = b.con k) (h4:∀ r,a.gen r = b.gen r) (h5:∀ r,a.dirty r = b.dirty r):a = b:=by
 cases a; cases b;simp only [Env.mk.injEq];exact ⟨h1,funext h2,funext h3,funext h4,funext h5⟩
theorem set_set {e:Env} {d d':Nat} {av av':AV} {cs cs':Nat → Option Con} (h:d ≠ d'):(e.set d av cs).set d' av' cs' = (e.set d' av' cs').set d av cs:=by
 refine Env.ext' rfl (fun s=>?_) (fun k=>?_) (fun r=>?_) (fun r=>?_)
 ·simp only [Env.set]
  by_cases h1:s = d <;> by_cases h2:s = d'
  ·exact absurd (h1.symm.trans h2) h
  all_goals simp [h1,h2,h,Ne.symm h]
 ·simp only [Env.set]
  by_cases h1:k.1 = d <;> by_cases h2:k.1 = d'
  ·exact absurd (h1.symm.trans h2) h
  all_goals simp [h1,h2,h,Ne.symm h]
 ·simp only [Env.set]
  by_cases h1:r = d <;> by_cases h2:r = d'
  ·exact absurd (h1.symm.trans h2) h
  all_goals simp [h1,h2,h,Ne.symm h]
 ·simp only [Env.set]
  by_cases h1:r = d <;> by_cases h2:r = d'
  ·exact absurd (h1.symm.trans h2) h
  all_goals simp [h1,h2,h,Ne.symm h]
theorem Nb {e:Env} {d r:Nat} {av:AV} {cs:Nat → Option Con} {p:aj} {y:C} (h:d ≠ r):(e.set d av cs).put r p y = (e.put r p y).set d av cs:=by
 refine Env.ext' rfl (fun s=>rfl) (fun k=>?_) (fun r'=>rfl) (fun r'=>?_)
 ·simp only [Env.set,Env.put]
  by_cases h1:k.1 = d
  ·have:k ≠ (r,0):=fun he=>h (by rw [← h1,he]);simp [h1,this]
  ·simp [h1]
 ·simp only [Env.set,Env.put]
  by_cases h1:r' = r
  ·subst h1; simp [Ne.symm h]
  ·by_cases h2:r' = d <;> simp [h1,h2,h]
theorem Ie {e:Env} {d s i:Nat} {av:AV} {cs:Nat → Option Con} (h:d ≠ s):(e.set d av cs).drop s i = (e.drop s i).set d av cs:=by
 refine Env.ext' rfl (fun s=>rfl) (fun k=>?_) (fun r'=>rfl) (fun r'=>rfl);simp only [Env.set,Env.drop]
 by_cases h1:k.1 = d
 ·have:k ≠ (s,i + 1):=fun he=>h (by rw [← h1,he]);simp [h1,this]
 ·simp [h1]
theorem Wq {e:Env} {r r':Nat} {p p':aj} {y y':C} (h:r ≠ r'):(e.put r p y).put r' p' y' = (e.put r' p' y').put r p y:=by
 refine Env.ext' rfl (fun s=>rfl) (fun k=>?_) (fun r'=>rfl) (fun x=>?_)
 ·simp only [Env.put]
  by_cases h1:k = (r,0)
  ·have:k ≠ (r',0):=fun he=>h (by rw [h1] at he; simpa using he);simp [h1,h]
  ·simp [h1]
 ·simp only [Env.put]
  by_cases h1:x = r <;> by_cases h2:x = r'
  ·exact absurd (h1.symm.trans h2) h
  all_goals simp [h1,h2,h,Ne.symm h]
theorem put_drop {e:Env} {r s i:Nat} {p:aj} {y:C}:(e.put r p y).drop s i = (e.drop s i).put r p y:=by
 refine Env.ext' rfl (fun s=>rfl) (fun k=>?_) (fun r'=>rfl) (fun r'=>rfl);simp only [Env.put,Env.drop]
 by_cases h1:k = (s,i + 1)
 ·subst h1; simp
 ·simp [h1]
theorem drop_drop {e:Env} {s s' i i':Nat}:(e.drop s i).drop s' i' = (e.drop s' i').drop s i:=by
 refine Env.ext' rfl (fun s=>rfl) (fun k=>?_) (fun r'=>rfl) (fun r'=>rfl);simp only [Env.drop]
 by_cases h1:k = (s,i + 1) <;> by_cases h2:k = (s',i' + 1) <;> simp [h1,h2]
theorem R9 {i j:Stat} (h:i.noWW j = true) {u v:Upd} (hu:u.okB i = true) (hv:v.okB j = true) (e:Env):v.on (u.on e) = u.on (v.on e):=by
 obtain ⟨h1,h2,h3,h4,h5,h6⟩:=P8 h
 cases u with
 | set d av cs =>
  have hd:=bm (show i.ws.contains d = true from hu)
  cases v with
  | set d' av' cs'=>exact set_set fun he=>h1 d hd (he ▸ bm hv)
  | put r p y =>
   obtain ⟨d1,hm,-⟩:=Stat.pB_iff.1 hv;exact Nb (h2 d r d1 hd hm)
  | drop s n=>exact Ie (h5 d _ hd (bm hv))
 | put r p y =>
  obtain ⟨d1,hm,-⟩:=Stat.pB_iff.1 hu
  cases v with
  | set d' av' cs'=>exact (Nb (h3 d' r d1 (bm hv) hm)).symm
  | put r' p' y' =>
   obtain ⟨d2,hm2,-⟩:=Stat.pB_iff.1 hv;exact Wq (h4 r d1 r' d2 hm hm2)
  | drop s n=>exact put_drop
 | drop s n =>
  cases v with
  | set d' av' cs'=>exact (Ie (h6 d' _ (bm hv) (bm hu))).symm
  | put r' p' y'=>exact put_drop.symm
  | drop s' n'=>exact drop_drop
theorem Pe {i j:Stat} (h:i.noWW j = true):∀ (us vs:List Upd),us.all (Upd.okB i) = true → vs.all (Upd.okB j) = true → ∀ e,upds vs (upds us e) = upds us (upds vs e):=by
 have one:∀ (u:Upd) (vs:List Upd),u.okB i = true → vs.all (Upd.okB j) = true → ∀ e,upds vs (u.on e) = u.on (upds vs e):=fun u vs hu=>by
  induction vs with
  | nil=>intro _ e; rfl
  | cons v vs ih =>
   intro hv e;simp only [List.all_cons,Bool.and_eq_true] at hv;show upds vs (v.on (u.on e)) = u.on (upds vs (v.on e));rw [R9 h hu hv.1,ih hv.2]
 intro us
 induction us with
 | nil=>intro vs _ _ e; rfl
 | cons u us ih =>
  intro vs hu hv e;simp only [List.all_cons,Bool.and_eq_true] at hu;show upds vs (upds us (u.on e)) = upds us (u.on (upds vs e));rw [ih vs hu.2 hv,one u vs hu.1 hv]
theorem Px {ci cj:Cts} {i j:Stat} (h:i.apart j = true) (hci:O7 ci) (hcj:Hj cj) {qi qj:Q} {e:Env} {K:Env → Prop}
 (hh:ah cj (some j) qj e (fun e1=>ah ci (some i) qi e1 K)):ah ci (some i) qi e (fun e2=>ah cj (some j) qj e2 K):=by
 unfold Stat.apart at h;simp only [Bool.and_eq_true] at h;obtain ⟨⟨h1,h2⟩,h3⟩:=h;obtain ⟨Oj,hOj,hK⟩:=(f0 qj).1 hh
 have hK':∀ us,Oj us → us.all (Upd.okB j) = true ∧ ∃ Oi,Out ci i qi e Oi ∧ ∀ vs,Oi vs → vs.all (Upd.okB i) = true ∧ K (upds vs (upds us e)):=fun us hus=>by
  obtain ⟨g1,g2⟩:=hK us hus;obtain ⟨Oi,g3,g4⟩:=(f0 qi).1 g2;exact ⟨g1,Oi,(Out.on h1 g1 qi Oi).1 g3,g4⟩
 obtain ⟨us0,hus0⟩:=hOj.some hcj;obtain ⟨-,Oi,hOi,-⟩:=hK' us0 hus0;refine (f0 qi).2 ⟨Oi,hOi,fun vs hvs=>?_⟩
 have hvl:vs.all (Upd.okB i) = true:=by
  obtain ⟨-,Oi',hOi',g⟩:=hK' us0 hus0;exact (g vs (by rw [← hOi.uniq hci qi hOi']; exact hvs)).1
 refine ⟨hvl,(f0 qj).2 ⟨Oj,(Out.on h2 hvl qj Oj).2 hOj,fun us hus=>?_⟩⟩;obtain ⟨g1,Oi',hOi',g⟩:=hK' us hus;refine ⟨g1,?_⟩;rw [Pe h3 vs us hvl g1];exact (g vs (by rw [← hOi.uniq hci qi hOi']; exact hvs)).2
end
section
open Go Go.RowKit
def constAV:Value → AV
 | .agg cs=>.agg (cs.toList.map C.p)
 | v=>.c (.p v)
def opd (x:Operand) (k:AV → Q):Q:=match x with
 | .tmp s=>.slot s k
 | .const v=>k (constAV v)
 | .func f=>k (.c (.p (.func (.func f) #[] #[])))
 | .global _=>.fail
def AV.plain:AV → Bool
 | .tup _=>false
 | .own _ _=>false
 | .box=>false
 | _=>true
def o5 (nn:Nat) (d:Option Nat) (us:List Upd) (av:AV) (cs:Nat → Option Con):Q:=match d with
 | some d=>if d < nn then .ups (us ++ [.set d av cs]) else .fail
 | none=>.fail
def ig (nn:Nat) (d:Option Nat) (av:AV):Q:=if av.plain = true then o5 nn d [] av noCon else .fail
def fi (w:World):Arg → Value → Prop
 | .c x,v=>RO w (fun _=>True) x v
 | .agg xs,v=>∃ vs,v = .agg vs ∧ ROs w (fun _=>True) xs vs
 | .io _ _,_=>False
 | .own _ _,_=>False
 | .fn g css,v=>FNok w (fun _=>True) g css v
 | .rp xs,v=>RPok w (fun _=>True) xs v
def dq (w:World) (S:Nat → Prop):Arg → Value → Prop
 | .c x,v=>RO w S x v
 | .agg xs,v=>∃ vs,v = .agg vs ∧ ROs w S xs vs
 | .io _ _,_=>False
 | .own _ _,_=>False
 | .fn g css,v=>FNok w S g css v
 | .rp xs,v=>RPok w S xs v
def resCon (r:Res):bh → Option Con:=fun key=>if key.1 = 0 then (match r with
 | [x]=>if key.2 = 0 then x.con else none
 | xs=>match key.2 with
  | 0=>none
  | i + 1=>(xs[i]?).bind RV.con) else none
def resAV:Res → AV
 | [x]=>x.tv.av
 | xs=>.tup (xs.map RV.tv)
def gr:Env:=⟨0,fun _=>.dead,fun _=>none,fun _=>0,fun _=>[]⟩
structure RetOk (w w':World) (r:Res) (v:Value) (val:Val) (S:Nat → Prop):Prop where
 below:Below w.heap.size w w'
 mem:MemOk w' (resCon r) val S
 new:∀ b key p,OwnB (resCon r) val b key p → w.heap.size ≤ b
 newS:∀ b,S b → w.heap.size ≤ b
 sv:SV { gr with con:=resCon r } w' val S 0 (resAV r) v
def DCalls (P:Program) (f:FuncId) (args:List Arg) (Post:Res → Prop):Prop :=
 ∀ w (vs:Array Value),vs.size = args.length → (∀ (i:Nat) (x:Arg),args[i]? = some x → ∃ u,vs[i]? = some u ∧ fi w x u) →
  Calls P f vs w fun e w'=>∃ r v val S,Post r ∧ e = .returned v ∧ RetOk w w' r v val S
theorem DCalls.mono {P:Program} {f:FuncId} {args:List Arg} {Post Post':Res → Prop} (h:DCalls P f args Post) (hp:∀ r,Post r → Post' r):DCalls P f args Post' :=
 fun w vs h1 h2=>(h w vs h1 h2).mono fun _ _ ⟨r,v,val,S,h3,h4⟩=>⟨r,v,val,S,hp r h3,h4⟩
structure Mq (w w':World) (S0:Nat → Prop) (r:Res) (v:Value) (val:Val) (S:Nat → Prop):Prop where
 below:Below w.heap.size w w'
 mem:MemOk w' (resCon r) val S
 new:∀ b key p,OwnB (resCon r) val b key p → w.heap.size ≤ b
 newS:∀ b,S b → w.heap.size ≤ b ∨ S0 b
 sv:SV { gr with con:=resCon r } w' val S 0 (resAV r) v
theorem RetOk.toS {w w':World} {S0:Nat → Prop} {r:Res} {v:Value} {val:Val} {S:Nat → Prop} (h:RetOk w w' r v val S):Mq w w' S0 r v val S:=⟨h.below,h.mem,h.new,fun b hb=>.inl (h.newS b hb),h.sv⟩
def dw (t:TypeId) (xs:List C) (r:Res):bh → Option Con:=fun key=>if key = (1,0) then some ⟨some t,xs⟩ else resCon r key
structure Dl (w w':World) (G S0:Nat → Prop) (t:TypeId) (xs:List C) (p0:Value) (r:Res) (v:Value) (val:Val) (S:Nat → Prop):Prop where
 frm:Frm ⟨w,G,fun _=>undef,S0⟩ w'
 mem:MemOk w' (dw t xs r) val S
 root:val (1,0) [] = p0
 new:∀ b key p,OwnB (dw t xs r) val b key p → w.heap.size ≤ b ∨ G b
 newS:∀ b,S b → (w.heap.size ≤ b ∨ G b) ∨ S0 b
 sv:SV { gr with con:=resCon r } w' val S 0 (resAV r) v
def Do (val:Val) (t:TypeId) (xs:List C) (b:Nat):Prop:=∃ p,OwnB (dw t xs []) val b (1,0) p
def dr (P:Program) (f:FuncId) (args:List Arg) (Post:Res → Prop):Prop:=match args with
 | .io t xs :: as=>∀ w (vs:Array Value) (val0:Val) (S0:Nat → Prop),vs.size = as.length + 1 → MemOk w (dw t xs []) val0 S0 → vs[0]? = some (val0 (1,0) []) → (∀ (i:Nat) (x:Arg),as[i]? = some x → ∃ u,vs[i + 1]? = some u ∧ dq w S0 x u) →
  Calls P f vs w fun e w'=>∃ r xs' v val S,xs'.length = xs.length ∧ Post (.own true xs' :: r) ∧ e = .returned v ∧ Dl w w' (Do val0 t xs) S0 t xs' (val0 (1,0) []) r v val S
 | as=>∀ w (vs:Array Value) (S0:Nat → Prop),vs.size = as.length → (∀ b,S0 b → b < w.heap.size) → (∀ (i:Nat) (x:Arg),as[i]? = some x → ∃ u,vs[i]? = some u ∧ dq w S0 x u) →
  Calls P f vs w fun e w'=>∃ r v val S,Post r ∧ e = .returned v ∧ Mq w w' S0 r v val S
def j3 (P:Program) (f:FuncId) (t:TypeId) (xs:List C) (args:List Arg) (Post:Res → Prop):Prop :=
 ∀ w (vs:Array Value) (val0:Val) (S0 T:Nat → Prop),vs.size = args.length + 1 → MemOk w (dw t xs []) val0 S0 → vs[0]? = some (val0 (1,0) []) → (∀ b,T b → b < w.heap.size ∧ ¬ Do val0 t xs b) → (∀ (i:Nat) (x:Arg),args[i]? = some x → ∃ u,vs[i + 1]? = some u ∧ dq w T x u) →
  Calls P f vs w fun e w'=>∃ r xs' v val S,xs'.length = xs.length ∧ Post (.own true xs' :: r) ∧ e = .returned v ∧ Dl w w' (Do val0 t xs) S0 t xs' (val0 (1,0) []) r v val S
def u7 (io:Option (TypeId × List C)) (cs:List C):bh → Option Con:=fun key=>if key = (1,0) then io.map (fun x=>⟨some x.1,x.2⟩) else if key = (2,0) then some ⟨none,cs⟩ else none
def Ms (io:Option (TypeId × List C)) (cs:List C) (val:Val) (b:Nat):Prop:=∃ key p,OwnB (u7 io cs) val b key p
structure jc3 (w w':World) (G S0:Nat → Prop) (r:Res) (v:Value) (val:Val) (S:Nat → Prop):Prop where
 frm:Frm ⟨w,G,fun _=>undef,S0⟩ w'
 mem:MemOk w' (resCon r) val S
 new:∀ b key p,OwnB (resCon r) val b key p → w.heap.size ≤ b ∨ G b
 newS:∀ b,S b → (w.heap.size ≤ b ∨ G b) ∨ S0 b
 sv:SV { gr with con:=resCon r } w' val S 0 (resAV r) v
def Vw (P:Program) (f:FuncId) (ag:Bool) (cs:List C) (args:List Arg) (Post:Res → Prop):Prop :=
 ∀ w (vs:Array Value) (val0:Val) (S0 T:Nat → Prop),vs.size = args.length + 1 → MemOk w (u7 none cs) val0 S0 → (∃ u,vs[0]? = some u ∧ TVok w S0 (some ⟨none,cs⟩) (val0 (2,0)) (.own ag cs.length) u) →
  (∀ b,T b → b < w.heap.size ∧ ¬ Ms none cs val0 b) → (∀ (i:Nat) (x:Arg),args[i]? = some x → ∃ u,vs[i + 1]? = some u ∧ dq w T x u) →
  Calls P f vs w fun e w'=>∃ r v val S,Post r ∧ e = .returned v ∧ jc3 w w' (Ms none cs val0) S0 r v val S
def tc (P:Program) (f:FuncId) (t:TypeId) (xs:List C) (ag:Bool) (cs:List C) (args:List Arg) (Post:Res → Prop):Prop :=
 ∀ w (vs:Array Value) (val0:Val) (S0:Nat → Prop),vs.size = args.length + 2 → MemOk w (u7 (some (t,xs)) cs) val0 S0 → vs[0]? = some (val0 (1,0) []) → (∃ u,vs[1]? = some u ∧ TVok w S0 (some ⟨none,cs⟩) (val0 (2,0)) (.own ag cs.length) u) →
  (∀ (i:Nat) (x:Arg),args[i]? = some x → ∃ u,vs[i + 2]? = some u ∧ dq w S0 x u) →
  Calls P f vs w fun e w'=>∃ r xs' v val S,xs'.length = xs.length ∧ Post (.own true xs' :: r) ∧ e = .returned v ∧ Dl w w' (Ms (some (t,xs)) cs val0) S0 t xs' (val0 (1,0) []) r v val S
def kw (P:Program) (f:FuncId) (ro:Bool) (args:List Arg) (Post:Res → Prop):Prop:=match args with
 | .io t xs :: .own ag cs :: as=>ro = true ∧ tc P f t xs ag cs as Post
 | .own ag cs :: as=>Vw P f ag cs as Post
 | .io t xs :: as=>j3 P f t xs as Post ∨ (ro = true ∧ dr P f (.io t xs :: as) Post)
 | as=>DCalls P f as Post ∨ (ro = true ∧ dr P f as Post)
def Arg.isIo:Arg → Bool
 | .io _ _=>true
 | .own _ _=>true
 | _=>false
theorem gt {P:Program} {f:FuncId} {ro:Bool} {as:List Arg} {Post:Res → Prop} (h:(as[0]?).map Arg.isIo ≠ some true):kw P f ro as Post = (DCalls P f as Post ∨ (ro = true ∧ dr P f as Post)):=by
 unfold kw;split
 ·exact absurd rfl h
 ·exact absurd rfl h
 ·exact absurd rfl h
 ·rfl
theorem xr {P:Program} {f:FuncId} {ro:Bool} {t:TypeId} {xs:List C} {as:List Arg} {Post:Res → Prop} (h:(as[0]?).map Arg.isIo ≠ some true):kw P f ro (.io t xs :: as) Post = (j3 P f t xs as Post ∨ (ro = true ∧ dr P f (.io t xs :: as) Post)):=by
 unfold kw;split
 ·rename_i e; cases e; exact absurd rfl h
 ·rename_i e; cases e
 ·rename_i e; cases e; rfl
 ·rename_i e1 e2 e3; exact absurd rfl (e3 _ _ _)
theorem qc {P:Program} {f:FuncId} {as:List Arg} {Post:Res → Prop} (h:(as[0]?).map Arg.isIo ≠ some true):dr P f as Post = ∀ w (vs:Array Value) (S0:Nat → Prop),vs.size = as.length → (∀ b,S0 b → b < w.heap.size) → (∀ (i:Nat) (x:Arg),as[i]? = some x → ∃ u,vs[i]? = some u ∧ dq w S0 x u) →
 Calls P f vs w fun e w'=>∃ r v val S,Post r ∧ e = .returned v ∧ Mq w w' S0 r v val S:=by
 unfold dr;split
 ·exact absurd rfl h
 ·rfl
def fh (P:Program) (nn:Nat) (o:Oper) (q:Q):Prop :=
 ∀ (ct:Cts) (t:Option Stat) (e:Env) (K:Env → Prop) (w0:Base) (a:Act) (w:World) (Qx:Exit → Act → World → Prop),(∀ f ro args Post,ct f ro args Post → kw P f ro args Post) → e.n = nn → ah ct t q e K → St w0 e a w →
  o.wp P a w (fun a' w'=>∃ e',K e' ∧ St w0 e' a' w') Qx
section
variable {P:Program} {nn:Nat} {o:Oper} {ct:Cts} {t:Option Stat} {e:Env} {K:Env → Prop} {w0:Base} {a:Act} {w:World} {val:Val} {S:Nat → Prop} {Qx:Exit → Act → World → Prop}
theorem dm {v:Value} {w':World} {K':Act → World → Prop} (hr:(execOp a.eval o).run P w = .ok (.value v) w') (h:K' (a.put o.dst v) w'):o.wp P a w K' Qx:=by
 unfold Oper.wp;rw [hr];exact h
theorem R0 {w':World} {K':Act → World → Prop} (hr:(execOp a.eval o).run P w = .ok .skip w') (h:K' (a.put o.dst undef) w'):o.wp P a w K' Qx:=by
 unfold Oper.wp;rw [hr];exact h
theorem M4 (h:StV w0 e a w val S) (s:Nat):∀ s',(e.view s).plain = true → SV e w val S s' (e.view s) (a.tmps.getD s undef):=fun s' hp=>by
 have hs:=h.slot s;unfold Env.view at hp ⊢
 cases hav:e.s s with
 | own ag n =>
  rw [hav] at hs;refine ⟨Nat.le_refl _,fun _=>?_⟩
  cases ag with
  | false=>exact ⟨hs.2.1,hs.2.2⟩
  | true =>
   obtain ⟨xs,vs,h1,h2,h3,h4,h5⟩:=hs;exact ⟨vs,h3,h4,fun i hi=>by rw [h5 i hi]; congr 2; unfold a6; split <;> simp_all⟩
 | box =>
  rw [hav] at hs;obtain ⟨⟨t,xs,h1⟩,h2⟩:=hs;refine ⟨Nat.le_refl _,fun _=>?_⟩;obtain ⟨b,cur,h3,-⟩:=h.mem.root _ _ _ h1;exact ⟨[],0,0,b,0,rfl,by rw [h2,h3],.inl ⟨rfl,rfl,rfl,h3⟩⟩
 | tup ts=>rw [hav] at hp; cases hp
 | fn g css=>rw [hav] at hs; exact hs
 | clo g rs=>rw [hav] at hs; exact hs
 | dead=>trivial
 | c x=>rw [hav] at hs; exact hs
 | agg xs=>rw [hav] at hs; exact hs
 | rp xs=>rw [hav] at hs; exact hs
 | ref r g p ag n=>rw [hav] at hs; exact hs
 | ptr r g p k=>rw [hav] at hs; exact hs
theorem de {x:Operand} {k:AV → Q} (h:ah ct t (opd x k) e K) (hs:StV w0 e a w val S):∃ av,ah ct t (k av) e K ∧ (av.plain = true → ∀ s',SV e w val S s' av (a.eval x)) ∧ ((∃ s,x = .tmp s ∧ av = e.view s) ∨ ∃ v,x = .const v ∨ (∃ f,x = .func f)):=by
 cases x with
 | tmp s=>exact ⟨e.view s,h.2,fun hp s'=>M4 hs s s' hp,.inl ⟨s,rfl,rfl⟩⟩
 | const v =>
  refine ⟨constAV v,h,fun _ s'=>?_,.inr ⟨v,.inl rfl⟩⟩;show SV e w val S s' (constAV v) v
  cases v with
  | agg cs =>
   refine ⟨cs,rfl,by simp,fun i x hx=>?_⟩;simp only [List.getElem?_map,Array.getElem?_toList,Option.map_eq_some_iff] at hx;obtain ⟨u,h1,rfl⟩:=hx;exact ⟨u,h1,.p u⟩
  | _=>exact RO.p _
 | global g=>exact h.elim
 | func f=>exact ⟨_,h,fun _ s'=>RO.p _,.inr ⟨undef,.inr ⟨f,rfl⟩⟩⟩
theorem fl {d:Option Nat} {us:List Upd} {av:AV} {cs:Nat → Option Con} (h:ah ct t (o5 nn d us av cs) e K):∃ d',d = some d' ∧ d' < nn ∧ K ((upds us e).set d' av cs):=by
 unfold o5 at h
 cases d with
 | none=>exact h.elim
 | some d =>
  simp only at h;split at h
  ·rename_i hd
   refine ⟨d,rfl,hd,?_⟩;have h2:=h.2
   have e1:∀ (us:List Upd) (e:Env),upds (us ++ [.set d av cs]) e = (upds us e).set d av cs:=fun us=>by
    induction us with
    | nil=>intro e; rfl
    | cons u us ih=>intro e; exact ih _
   rw [e1] at h2;exact h2
  ·exact h.elim
theorem SV.copy {av:AV} {v:Value} {d s:Nat} (h:SV e w val S s av v) (hp:av.plain = true):SV (e.set d av noCon) w val S d av v:=by
 cases av with
 | tup ts=>cases hp
 | fn g css=>exact h
 | clo g rs=>exact CLok.keep h (fun r=>im _ _ _ _) fun r g' h1 hf=>⟨(e8 h1 hf).2,rfl⟩
 | own ag n=>cases hp
 | box=>cases hp
 | dead=>trivial
 | c x=>exact h
 | agg xs=>exact h
 | rp xs=>exact h
 | ref r g p ag n =>
  obtain ⟨h1,h2⟩:=h;exact ⟨Nat.le_trans h1 (im _ _ _ _),fun hf=>h2 fun i hi=>(e8 h1 (hf i hi)).2⟩
 | ptr r g p k =>
  obtain ⟨h1,h2⟩:=h;exact ⟨Nat.le_trans h1 (im _ _ _ _),fun hf=>h2 (e8 h1 hf).2⟩
theorem b0 {av:AV} {v:Value} {w':World} (h:ah ct t (ig nn o.dst av) e K) (hn:e.n = nn) (hs:StV w0 e a w val S) (hb:Below w.heap.size w w') (hr:(execOp a.eval o).run P w = .ok (.value v) w') (hv:av.plain = true → ∃ s,SV e w' val S s av v) :
 o.wp P a w (fun a' w'=>∃ e',K e' ∧ St w0 e' a' w') Qx:=by
 unfold ig at h;split at h
 ·rename_i hp
  obtain ⟨d,hd,hdn,hK⟩:=fl h;obtain ⟨s,hv⟩:=hv hp;refine dm hr ⟨_,hK,val,S,?_⟩;rw [hd];exact hs.setP (by omega) hb (hv.copy hp)
 ·exact h.elim
def Cg (nn:Nat) (d:Option Nat) (x:Operand):Q:=opd x fun av=>ig nn d av
theorem Cf {x:Operand} (ho:o.op = .move x ∨ o.op = .assign x):fh P nn o (Cg nn o.dst x):=by
 intro ct t e K w0 a w Qx _ hn hq ⟨val,S,hs⟩;obtain ⟨av,h1,h2,-⟩:=de hq hs;refine b0 h1 hn hs (Below.refl _ _) (v:=a.eval x) ?_ fun hp=>⟨0,h2 hp 0⟩;unfold execOp
 rcases ho with ho | ho <;> rw [ho] <;> rfl
def Dc (av:AV) (k:Bool → Q):Q:=match av with
 | .c (.p (.bool b))=>k b
 | _=>.fail
def Ep (nn:Nat) (d:Option Nat) (c x y:Operand):Q:=opd c fun av=>Dc av fun b=>opd (if b = true then x else y) fun av=>ig nn d av
theorem Q8 {av:AV} {k:Bool → Q} (h:ah ct t (Dc av k) e K):∃ b,av = .c (.p (.bool b)) ∧ ah ct t (k b) e K:=by
 unfold Dc at h;split at h
 ·exact ⟨_,rfl,h⟩
 ·exact h.elim
theorem fp {v u:Value} (h:RO w S (.p v) u):u = v:=by cases h; rfl
theorem K9 {c x y:Operand} (ho:o.op = .pick c x y):fh P nn o (Ep nn o.dst c x y):=by
 intro ct t e K w0 a w Qx _ hn hq ⟨val,S,hs⟩;obtain ⟨av,h1,h2,-⟩:=de hq hs;obtain ⟨b,rfl,h3⟩:=Q8 h1;have hc:a.eval c = .bool b:=fp (h2 rfl 0);obtain ⟨av2,h4,h5,-⟩:=de h3 hs;refine b0 h4 hn hs (Below.refl _ _) (v:=a.eval (if b = true then x else y)) ?_ fun hp=>⟨0,h5 hp 0⟩;unfold execOp;rw [ho];simp only [hc,asBool,Sem.run_bind,Sem.run_pure,Result.andThen_ok];cases b <;> rfl
end
end
end Go.Proofs.YtfknckinfcicbaaGreat

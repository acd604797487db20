/- Parts of the proof. -/
import Derived.WalkKit
import Derived.WalkSpells
import Derived.WalkLawsBesides
import Derived.Lib.Hide
import Derived.OwnWalk
import Derived.Maps.AppendAt
set_option linter.unusedSimpArgs false
set_option linter.unusedVariables false
namespace Go.Proofs.YtfknckinfcicbaaGreat
section
open Go Go.RowKit
abbrev aj:=List (Nat × Nat)
inductive C where
 | p (v:Value)
 | hole
 | sl (own:Bool) (t:TypeId) (k:Nat) (rows:List (List C))
 deriving Inhabited
theorem fy {α:Type} (l:List α) (i j:Nat) (f:α → α):(l.modify i f)[j]? = if i = j then (l[j]?).map f else l[j]?:=by
 rw [List.getElem?_modify]
 cases l[j]? with
 | none=>by_cases h:i = j <;> simp [h]
 | some x=>by_cases h:i = j <;> simp [h]
def cg (rows:List (List C)) (j q:Nat):Option C:=(rows[j]?).bind (·[q]?)
theorem bi {rows:List (List C)} {j q:Nat} {c:C}:cg rows j q = some c ↔ ∃ r,rows[j]? = some r ∧ r[q]? = some c:=by
 unfold cg;cases rows[j]? <;> simp
theorem we {rows:List (List C)} {j q:Nat} {c:C} (h:cg rows j q = some c):j < rows.length:=by
 obtain ⟨r,h1,-⟩:=bi.1 h;exact (List.getElem?_eq_some_iff.1 h1).1
theorem Wn {rows:List (List C)} {k j q:Nat} (hk:∀ r ∈ rows,r.length = k) (hj:j < rows.length) (hq:q < k):∃ c,cg rows j q = some c:=by
 have hr:=hk _ (List.getElem_mem hj);exact ⟨rows[j][q]'(by omega),bi.2 ⟨rows[j],by simp [hj],by simp [show q < rows[j].length by omega]⟩⟩
theorem F2 {rows:List (List C)} {k j q:Nat} {c:C} (hk:∀ r ∈ rows,r.length = k) (h:cg rows j q = some c):q < k:=by
 obtain ⟨r,h1,h2⟩:=bi.1 h;have:=(List.getElem?_eq_some_iff.1 h2).1;rw [hk r (List.mem_of_getElem? h1)] at this;exact this
inductive RO (w:World) (S:Nat → Prop):C → Value → Prop
 | p (v:Value):RO w S (.p v) v
 | hole (v:Value):RO w S .hole v
 | nil (own:Bool) (t k:Nat) (A:Option Addr) (cap:Nat):cap ≤ maxLen → RO w S (.sl own t k []) (.slice A 0 cap)
 | sl (own:Bool) (t k:Nat) (rows:List (List C)) (b off cap:Nat) (us:Nat → Nat → Value):(∀ r ∈ rows,r.length = k) → rows.length ≤ cap → cap ≤ maxLen → S b → b < w.heap.size →
  (∀ j q c,cg rows j q = some c → w.cell? ⟨b,off + j * k + q,none⟩ = some (us j q)) → (∀ j q c,cg rows j q = some c → RO w S c (us j q)) →
  RO w S (.sl own t k rows) (.slice (some ⟨b,off,none⟩) rows.length cap)
theorem RO.keep {w w':World} {S S':Nat → Prop} {c:C} {v:Value} (h:RO w S c v) (hS:∀ b,S b → b < w.heap.size → S' b) (hk:∀ b,S b → b < w.heap.size → w'.heap[b]? = w.heap[b]?):RO w' S' c v:=by
 induction h with
 | p v=>exact .p v
 | hole v=>exact .hole v
 | nil own t k A cap hc=>exact .nil own t k A cap hc
 | sl own t k rows b off cap us h1 h2 h3 h4 h5 h6 h7 ih =>
  refine .sl own t k rows b off cap us h1 h2 h3 (hS b h4 h5) ?_ (fun j q c hc=>?_) ih
  ·have h8:=hk b h4 h5;rw [Array.getElem?_eq_getElem h5] at h8;exact (Array.getElem?_eq_some_iff.1 h8).1
  ·rw [World.cell?_of_block (hk b h4 h5)];exact h6 j q c hc
theorem RO.weak {w:World} {S S':Nat → Prop} {c:C} {v:Value} (h:RO w S c v) (hS:∀ b,S b → b < w.heap.size → S' b):RO w S' c v:=h.keep hS fun _ _ _=>rfl
def ROs (w:World) (S:Nat → Prop) (xs:List C) (vs:Array Value):Prop:=vs.size = xs.length ∧ ∀ (i:Nat) (x:C),xs[i]? = some x → ∃ u,vs[i]? = some u ∧ RO w S x u
theorem ROs.keep {w w':World} {S S':Nat → Prop} {xs:List C} {vs:Array Value} (h:ROs w S xs vs) (hS:∀ b,S b → b < w.heap.size → S' b) (hk:∀ b,S b → b < w.heap.size → w'.heap[b]? = w.heap[b]?):ROs w' S' xs vs :=
 ⟨h.1,fun i x hx=>let ⟨u,h1,h2⟩:=h.2 i x hx; ⟨u,h1,h2.keep hS hk⟩⟩
theorem RO.flag {w:World} {S:Nat → Prop} {own own':Bool} {t t' k:Nat} {rows:List (List C)} {v:Value} (h:RO w S (.sl own t k rows) v):RO w S (.sl own' t' k rows) v:=by
 cases h with
 | nil _ _ _ A cap hc=>exact .nil own' t' k A cap hc
 | sl _ _ _ _ b off cap us h1 h2 h3 h4 h5 h6 h7=>exact .sl own' t' k rows b off cap us h1 h2 h3 h4 h5 h6 h7
theorem RO.shape {w:World} {S:Nat → Prop} {own:Bool} {t k:Nat} {rows:List (List C)} {v:Value} (h:RO w S (.sl own t k rows) v):∃ A cap,v = .slice A rows.length cap ∧ rows.length ≤ cap ∧ cap ≤ maxLen ∧
 (rows ≠ [] → ∃ b off,A = some ⟨b,off,none⟩ ∧ S b ∧ b < w.heap.size ∧ (∀ r ∈ rows,r.length = k) ∧ ∀ j q c,cg rows j q = some c → ∃ u,w.cell? ⟨b,off + j * k + q,none⟩ = some u ∧ RO w S c u):=by
 cases h with
 | nil _ _ _ A cap hc=>exact ⟨A,cap,rfl,Nat.zero_le _,hc,fun h=>absurd rfl h⟩
 | sl _ _ _ _ b off cap us h1 h2 h3 h4 h5 h6 h7=>exact ⟨_,cap,rfl,h2,h3,fun _=>⟨b,off,rfl,h4,h5,h1,fun j q c hc=>⟨_,h6 j q c hc,h7 j q c hc⟩⟩⟩
def C.at:C → aj → Option C
 | c,[]=>some c
 | .sl true _ _ rows,(j,q) :: r=>(cg rows j q).bind (·.at r)
 | _,_ :: _=>none
def look (xs:List C):aj → Option C
 | (0,i) :: r=>(xs[i]?).bind (·.at r)
 | _=>none
theorem da (c:C):c.at [] = some c:=by unfold C.at; rfl
theorem d7 (t:TypeId) (k:Nat) (rows:List (List C)) (j q:Nat) (r:aj):(C.sl true t k rows).at ((j,q) :: r) = (cg rows j q).bind (·.at r):=by rw [C.at]
theorem ei {c:C} {s:Nat × Nat} {r:aj} {d:C} (h:c.at (s :: r) = some d):∃ t k rows c',c = .sl true t k rows ∧ cg rows s.1 s.2 = some c' ∧ c'.at r = some d:=by
 obtain ⟨j,q⟩:=s
 cases c with
 | p v=>simp [C.at] at h
 | hole=>simp [C.at] at h
 | sl own t k rows =>
  cases own with
  | false=>simp [C.at] at h
  | true =>
   rw [d7] at h
   cases hr:cg rows j q with
   | none=>rw [hr] at h; simp at h
   | some c'=>rw [hr] at h; exact ⟨t,k,rows,c',rfl,hr,h⟩
theorem Rc (p r:aj) (c:C):c.at (p ++ r) = (c.at p).bind (·.at r):=by
 induction p generalizing c with
 | nil=>simp [da]
 | cons s p ih =>
  cases h:c.at (s :: p) with
  | none =>
   cases h2:c.at (s :: p ++ r) with
   | none=>rfl
   | some d =>
    obtain ⟨t,k,rows,c',rfl,h3,h4⟩:=ei h2;obtain ⟨j,q⟩:=s;rw [d7,h3] at h;simp only [Option.bind_some] at h;have e:c'.at (p ++ r) = some d:=h4;rw [ih,h] at e;cases e
  | some d =>
   obtain ⟨t,k,rows,c',rfl,h3,h4⟩:=ei h;obtain ⟨j,q⟩:=s;rw [List.cons_append,d7,h3];simp only [Option.bind_some];rw [ih,h4];rfl
theorem rl {xs:List C} {p r:aj} (hp:p ≠ []):look xs (p ++ r) = (look xs p).bind (·.at r):=by
 cases p with
 | nil=>exact absurd rfl hp
 | cons s p =>
  obtain ⟨j,q⟩:=s
  cases j with
  | zero =>
   rw [List.cons_append];simp only [look]
   cases xs[q]? with
   | none=>rfl
   | some c=>simp only [Option.bind_some]; exact Rc p r c
  | succ j=>simp [look]
theorem dv (xs:List C) (i:Nat):look xs [(0,i)] = xs[i]?:=by
 simp only [look];cases xs[i]? <;> simp [da]
theorem gx {xs:List C} {p:aj} (hp:p ≠ []) {j q:Nat} {c:C}:look xs (p ++ [(j,q)]) = some c ↔ ∃ t k rows,look xs p = some (.sl true t k rows) ∧ cg rows j q = some c:=by
 rw [rl hp];constructor
 ·intro h
  cases h1:look xs p with
  | none=>rw [h1] at h; cases h
  | some d =>
   rw [h1] at h;obtain ⟨t,k,rows,c',rfl,h3,h4⟩:=ei h;rw [da] at h4;cases h4;exact ⟨t,k,rows,rfl,h3⟩
 ·rintro ⟨t,k,rows,h1,h2⟩;rw [h1];simp only [Option.bind_some,d7,h2,da]
theorem eh {xs:List C} {p:aj} {c:C} (h:look xs p = some c):p ≠ []:=by
 rintro rfl;cases h
theorem yi {p:aj} (h:p ≠ []):∃ p' s,p = p' ++ [s]:=⟨p.dropLast,p.getLast h,(List.dropLast_concat_getLast h).symm⟩
def C.put (y:C):aj → C → C
 | [],_=>y
 | (j,q) :: r,.sl true t k rows=>.sl true t k (rows.modify j fun row=>row.modify q (C.put y r))
 | _ :: _,c=>c
def puts (xs:List C) (y:C):aj → List C
 | (0,i) :: r=>xs.modify i (C.put y r)
 | _=>xs
theorem dc (xs:List C) (y:C) (p:aj):(puts xs y p).length = xs.length:=by
 unfold puts;split <;> simp
theorem No (y c:C):C.put y [] c = y:=by unfold C.put; rfl
theorem lw (y:C) (t:TypeId) (k:Nat) (rows:List (List C)) (j q:Nat) (r:aj):C.put y ((j,q) :: r) (.sl true t k rows) = .sl true t k (rows.modify j fun row=>row.modify q (C.put y r)):=by rw [C.put]
theorem gj (rows:List (List C)) (j q j' q':Nat) (f:C → C):cg (rows.modify j fun row=>row.modify q f) j' q' = if j = j' ∧ q = q' then (cg rows j' q').map f else cg rows j' q':=by
 unfold cg;rw [fy]
 by_cases hj:j = j'
 ·subst hj;rw [if_pos rfl]
  cases rows[j]? with
  | none=>simp
  | some r =>
   simp only [Option.map_some,Option.bind_some,fy]
   by_cases hq:q = q'
   ·subst hq; simp
   ·simp [hq]
 ·rw [if_neg hj,if_neg (fun h=>hj h.1)]
theorem Vh (y:C):∀ (p:aj) (c:C) {d:C} (r:aj),c.at p = some d → (C.put y p c).at (p ++ r) = y.at r
 | [],c,d,r,_=>by rw [No,List.nil_append]
 | s :: p,c,d,r,h=>by
  obtain ⟨t,k,rows,c',rfl,h3,h4⟩:=ei h;obtain ⟨j,q⟩:=s;rw [lw,List.cons_append,d7,gj,if_pos ⟨rfl,rfl⟩,h3];simp only [Option.map_some,Option.bind_some];exact Vh y p c' r h4
theorem yq {xs:List C} {y:C} {p:aj} {d:C} (h:look xs p = some d) (r:aj):look (puts xs y p) (p ++ r) = y.at r:=by
 cases p with
 | nil=>cases h
 | cons s p =>
  obtain ⟨j,i⟩:=s
  cases j with
  | succ j=>cases h
  | zero =>
   simp only [puts,List.cons_append,look,fy,if_pos] at h ⊢
   cases hx:xs[i]? with
   | none=>rw [hx] at h; cases h
   | some c =>
    rw [hx] at h;simp only [Option.bind_some] at h;simp only [Option.map_some,Option.bind_some];exact Vh y p c r h
inductive Hd where
 | p (v:Value)
 | hole
 | own (t k n:Nat)
 | ro (c:C)
def C.hd:C → Hd
 | .p v=>.p v
 | .hole=>.hole
 | .sl true t k rows=>.own t k rows.length
 | .sl false t k rows=>.ro (.sl false t k rows)
theorem Lu (y:C) {s:Nat × Nat} {p:aj} (c:C):(C.put y (s :: p) c).hd = c.hd:=by
 obtain ⟨j,q⟩:=s
 cases c with
 | p v=>simp [C.put]
 | hole=>simp [C.put]
 | sl own t k rows =>
  cases own with
  | false=>simp [C.put]
  | true=>rw [lw]; simp [C.hd]
theorem Ft (y:C):∀ (p r:aj) (c:C),¬ p <+: r → ((C.put y p c).at r).map C.hd = (c.at r).map C.hd
 | [],r,c,h=>absurd (List.nil_prefix) h
 | s :: p,[],c,_=>by rw [da,da]; simp [Lu]
 | s :: p,s' :: r,c,h=>by
  cases c with
  | p v=>simp [C.put]
  | hole=>simp [C.put]
  | sl own t k rows =>
   cases own with
   | false=>simp [C.put]
   | true =>
    obtain ⟨j,q⟩:=s;obtain ⟨j',q'⟩:=s';rw [lw,d7,d7,gj]
    by_cases he:j = j' ∧ q = q'
    ·obtain ⟨rfl,rfl⟩:=he;rw [if_pos ⟨rfl,rfl⟩]
     cases cg rows j q with
     | none=>rfl
     | some c' =>
      simp only [Option.map_some,Option.bind_some];exact Ft y p r c' fun hp=>h (List.cons_prefix_cons.2 ⟨rfl,hp⟩)
    ·rw [if_neg he]
theorem Nn {xs:List C} {y:C} {p r:aj} (h:¬ p <+: r):(look (puts xs y p) r).map C.hd = (look xs r).map C.hd:=by
 cases p with
 | nil=>exact absurd List.nil_prefix h
 | cons s p =>
  obtain ⟨j,i⟩:=s
  cases j with
  | succ j=>rfl
  | zero =>
   cases r with
   | nil=>rfl
   | cons s' r =>
    obtain ⟨j',i'⟩:=s'
    cases j' with
    | succ j'=>rfl
    | zero =>
     simp only [puts,look,fy]
     by_cases he:i = i'
     ·subst he;rw [if_pos rfl]
      cases xs[i]? with
      | none=>rfl
      | some c =>
       simp only [Option.map_some,Option.bind_some];exact Ft y p r c fun hp=>h (List.cons_prefix_cons.2 ⟨rfl,hp⟩)
     ·rw [if_neg he]
theorem xk (y:C):∀ (p r:aj) (c:C),¬ p <+: r → ¬ r <+: p → (C.put y p c).at r = c.at r
 | [],r,c,h,_=>absurd (List.nil_prefix) h
 | s :: p,[],c,_,h=>absurd (List.nil_prefix) h
 | s :: p,s' :: r,c,h,h'=>by
  cases c with
  | p v=>simp [C.put]
  | hole=>simp [C.put]
  | sl own t k rows =>
   cases own with
   | false=>simp [C.put]
   | true =>
    obtain ⟨j,q⟩:=s;obtain ⟨j',q'⟩:=s';rw [lw,d7,d7,gj]
    by_cases he:j = j' ∧ q = q'
    ·obtain ⟨rfl,rfl⟩:=he;rw [if_pos ⟨rfl,rfl⟩]
     cases cg rows j q with
     | none=>rfl
     | some c' =>
      simp only [Option.map_some,Option.bind_some];exact xk y p r c' (fun hp=>h (List.cons_prefix_cons.2 ⟨rfl,hp⟩)) (fun hp=>h' (List.cons_prefix_cons.2 ⟨rfl,hp⟩))
    ·rw [if_neg he]
theorem gk {xs:List C} {y:C} {p r:aj} (h:¬ p <+: r) (h':¬ r <+: p):look (puts xs y p) r = look xs r:=by
 cases p with
 | nil=>exact absurd List.nil_prefix h
 | cons s p =>
  obtain ⟨j,i⟩:=s
  cases j with
  | succ j=>rfl
  | zero =>
   cases r with
   | nil=>rfl
   | cons s' r =>
    obtain ⟨j',i'⟩:=s'
    cases j' with
    | succ j'=>rfl
    | zero =>
     simp only [puts,look,fy]
     by_cases he:i = i'
     ·subst he;rw [if_pos rfl]
      cases xs[i]? with
      | none=>rfl
      | some c =>
       simp only [Option.map_some,Option.bind_some];exact xk y p r c (fun hp=>h (List.cons_prefix_cons.2 ⟨rfl,hp⟩)) (fun hp=>h' (List.cons_prefix_cons.2 ⟨rfl,hp⟩))
     ·rw [if_neg he]
end
section
open Go Go.RowKit
abbrev bh:=Nat × Nat
inductive TV where
 | c (x:C)
 | agg (xs:List C)
 | own (ag:Bool) (n:Nat)
 deriving Inhabited
inductive AV where
 | dead
 | c (x:C)
 | agg (xs:List C)
 | own (ag:Bool) (n:Nat)
 | box
 | ref (r g:Nat) (p:aj) (ag:Bool) (n:Nat)
 | ptr (r g:Nat) (p:aj) (k:Nat)
 | rp (xs:List C)
 | tup (xs:List TV)
 | fn (g:FuncId) (css:List (List C))
 | clo (g:FuncId) (rs:List (Nat × Nat))
 deriving Inhabited
structure Con where
 box:Option TypeId
 xs:List C
structure Env where
 n:Nat
 s:Nat → AV
 con:bh → Option Con
 gen:Nat → Nat
 dirty:Nat → List aj
abbrev Val:=bh → aj → Value
def OwnB (con:bh → Option Con) (val:Val) (b:Nat) (key:bh) (p:aj):Prop :=
 (p = [] ∧ (∃ t xs,con key = some ⟨some t,xs⟩) ∧ val key [] = .pointer (some ⟨b,0,none⟩)) ∨
 ∃ cn t k rows n cap,con key = some cn ∧ look cn.xs p = some (.sl true t k rows) ∧ ∃ o,val key p = .slice (some ⟨b,o,none⟩) n cap
def SlOk (w:World) (va:aj → Value) (p:aj) (t:TypeId) (k:Nat) (rows:List (List C)):Prop :=
 0 < k ∧ (∀ r ∈ rows,r.length = k) ∧ ((rows = [] ∧ va p = .slice none 0 0) ∨
  ∃ b o cap cur,va p = .slice (some ⟨b,o,none⟩) rows.length cap ∧ w.heap[b]? = some (.cells cur t (0,0)) ∧ rows.length ≤ cap ∧ cap ≤ maxLen ∧ o + cap * k ≤ cur.size ∧
   ∀ j q c,cg rows j q = some c → cur[o + (j * k + q)]? = some (va (p ++ [(j,q)])))
def NodeOk (w:World) (S:Nat → Prop) (va:aj → Value) (p:aj):C → Prop
 | .p v=>va p = v
 | .hole=>True
 | .sl true t k rows=>SlOk w va p t k rows
 | .sl false t k rows=>RO w S (.sl false t k rows) (va p)
def RootOk (w:World) (va:aj → Value) (t:TypeId) (xs:List C):Prop :=
 ∃ b cur,va [] = .pointer (some ⟨b,0,none⟩) ∧ w.heap[b]? = some (.cells cur t (0,0)) ∧ cur.size = xs.length ∧ ∀ i,i < xs.length → cur[i]? = some (va [(0,i)])
structure MemOk (w:World) (con:bh → Option Con) (val:Val) (S:Nat → Prop):Prop where
 node:∀ key cn p c,con key = some cn → look cn.xs p = some c → NodeOk w S (val key) p c
 root:∀ key t xs,con key = some ⟨some t,xs⟩ → RootOk w (val key) t xs
 inj:∀ b key p key' p',OwnB con val b key p → OwnB con val b key' p' → key = key' ∧ p = p'
 sep:∀ b,S b → b < w.heap.size ∧ ∀ key p,¬ OwnB con val b key p
theorem SlOk.keep {w w':World} {va:aj → Value} {p:aj} {t:TypeId} {k:Nat} {rows:List (List C)} (h:SlOk w va p t k rows) (hk:∀ b o n cap,va p = .slice (some ⟨b,o,none⟩) n cap → b < w.heap.size → w'.heap[b]? = w.heap[b]?):SlOk w' va p t k rows:=by
 obtain ⟨h0,h1,h2⟩:=h;refine ⟨h0,h1,h2.imp id ?_⟩;rintro ⟨b,o,cap,cur,h3,h4,h5⟩;exact ⟨b,o,cap,cur,h3,(hk b _ _ _ h3 (Array.getElem?_eq_some_iff.1 h4).1).trans h4,h5⟩
theorem RootOk.keep {w w':World} {va:aj → Value} {t:TypeId} {xs:List C} (h:RootOk w va t xs) (hk:∀ b,va [] = .pointer (some ⟨b,0,none⟩) → b < w.heap.size → w'.heap[b]? = w.heap[b]?):RootOk w' va t xs:=by
 obtain ⟨b,cur,h1,h2,h3⟩:=h;exact ⟨b,cur,h1,(hk b h1 (Array.getElem?_eq_some_iff.1 h2).1).trans h2,h3⟩
theorem MemOk.lt {w:World} {con:bh → Option Con} {val:Val} {S:Nat → Prop} (h:MemOk w con val S) {b:Nat} {key:bh} {p:aj} (ho:OwnB con val b key p):b < w.heap.size:=by
 rcases ho with ⟨rfl,⟨t,xs,h1⟩,h2⟩ | ⟨cn,t,k,rows,n,cap,h1,h2,o,h3⟩
 ·obtain ⟨b',cur,h4,h5,-⟩:=h.root key t xs h1;rw [h2] at h4;cases h4;exact (Array.getElem?_eq_some_iff.1 h5).1
 ·obtain ⟨-,-,h4⟩:=h.node key cn p _ h1 h2
  rcases h4 with ⟨-,h4⟩ | ⟨b',o',cap',cur,h4,h5,-⟩
  ·rw [h3] at h4; cases h4
  ·rw [h3] at h4;cases h4;exact (Array.getElem?_eq_some_iff.1 h5).1
theorem MemOk.keep {w w':World} {con:bh → Option Con} {val:Val} {S:Nat → Prop} (h:MemOk w con val S) (hs:w.heap.size ≤ w'.heap.size)
 (hk:∀ b,b < w.heap.size → (S b ∨ ∃ key p,OwnB con val b key p) → w'.heap[b]? = w.heap[b]?):MemOk w' con val S:=by
 refine ⟨fun key cn p c h1 h2=>?_,fun key t xs h1=>?_,h.inj,fun b hb=>⟨Nat.lt_of_lt_of_le (h.sep b hb).1 hs,(h.sep b hb).2⟩⟩
 ·have:=h.node key cn p c h1 h2
  cases c with
  | p v=>exact this
  | hole=>trivial
  | sl own t k rows =>
   cases own with
   | false=>exact RO.keep this (fun b hb _=>hb) fun b hb hl=>hk b hl (.inl hb)
   | true=>exact SlOk.keep this fun b o n cap hv hl=>hk b hl (.inr ⟨key,p,.inr ⟨cn,t,k,rows,n,cap,h1,h2,o,hv⟩⟩)
 ·exact (h.root key t xs h1).keep fun b hv hl=>hk b hl (.inr ⟨key,[],.inl ⟨rfl,⟨t,xs,h1⟩,hv⟩⟩)
theorem MemOk.below {w w':World} {con:bh → Option Con} {val:Val} {S:Nat → Prop} (h:MemOk w con val S) (hb:Below w.heap.size w w'):MemOk w' con val S:=h.keep hb.size fun b hl _=>hb.block b hl
def Env.fresh (e:Env) (r g:Nat) (p:aj):Prop:=e.gen r = g ∧ ∀ d ∈ e.dirty r,¬ d <+: p
def jbf (va:aj → Value) (p:aj) (k:Nat) (v:Value):Prop :=
 ∃ p' j q b o,p = p' ++ [(j,q)] ∧ v = .pointer (some ⟨b,o + (j * k + q),none⟩) ∧ ((p' = [] ∧ j = 0 ∧ o = 0 ∧ va [] = .pointer (some ⟨b,0,none⟩)) ∨ (p' ≠ [] ∧ ∃ n cap,va p' = .slice (some ⟨b,o,none⟩) n cap))
def a6 (p:aj) (i:Nat):aj:=if i = 0 then p else p.dropLast ++ [((p.getLastD (0,0)).1,(p.getLastD (0,0)).2 + i)]
theorem b8 (p:aj):a6 p 0 = p:=rfl
theorem c9 (p:aj) (j q i:Nat):a6 (p ++ [(j,q)]) i = p ++ [(j,q + i)]:=by
 unfold a6
 by_cases h:i = 0
 ·subst h; rfl
 ·rw [if_neg h]; simp
def TVok (w:World) (S:Nat → Prop) (con:Option Con) (va:aj → Value):TV → Value → Prop
 | .c x,v=>RO w S x v
 | .agg xs,v=>∃ vs,v = .agg vs ∧ ROs w S xs vs
 | .own false n,v=>(∃ x,con = some ⟨none,[x]⟩) ∧ n = 1 ∧ v = va [(0,0)]
 | .own true n,v=>∃ xs vs,con = some ⟨none,xs⟩ ∧ xs.length = n ∧ v = .agg vs ∧ vs.size = n ∧ ∀ i,i < n → vs[i]? = some (va [(0,i)])
def TVp (w:World) (S:Nat → Prop) (con:Option Con) (va:aj → Value) (t:TV) (v:Value):Prop:=(con = none ∧ ∃ ag n,t = .own ag n) ∨ TVok w S con va t v
abbrev RPok (w:World) (S:Nat → Prop) (xs:List C) (v:Value):Prop:=∃ b off,v = .pointer (some ⟨b,off,none⟩) ∧ S b ∧ b < w.heap.size ∧ ∀ (i:Nat) (x:C),xs[i]? = some x → ∃ u,w.cell? ⟨b,off + i,none⟩ = some u ∧ RO w S x u
theorem RPok.keep {w w':World} {S S':Nat → Prop} {xs:List C} {v:Value} (h:RPok w S xs v) (hS:∀ b,S b → b < w.heap.size → S' b) (hk:∀ b,S b → b < w.heap.size → w'.heap[b]? = w.heap[b]?):RPok w' S' xs v:=by
 obtain ⟨b,off,h1,h2,h3,h4⟩:=h;have hb:=hk b h2 h3;refine ⟨b,off,h1,hS b h2 h3,?_,fun i x hi=>?_⟩
 ·rw [Array.getElem?_eq_getElem h3] at hb;exact (Array.getElem?_eq_some_iff.1 hb).1
 ·obtain ⟨u,h5,h6⟩:=h4 i x hi;exact ⟨u,(World.cell?_of_block hb).trans h5,h6.keep hS hk⟩
def FNok (w:World) (S:Nat → Prop) (g:FuncId) (css:List (List C)) (v:Value):Prop:=∃ vs:Array Value,v = .func (.func g) #[] vs ∧ vs.size = css.length ∧ ∀ (i:Nat) (xs:List C),css[i]? = some xs → ∃ u,vs[i]? = some u ∧ RPok w S xs u
theorem FNok.keep {w w':World} {S S':Nat → Prop} {g:FuncId} {css:List (List C)} {v:Value} (h:FNok w S g css v) (hS:∀ b,S b → b < w.heap.size → S' b) (hk:∀ b,S b → b < w.heap.size → w'.heap[b]? = w.heap[b]?):FNok w' S' g css v:=by
 obtain ⟨vs,h1,h2,h3⟩:=h;refine ⟨vs,h1,h2,fun i xs hi=>?_⟩;obtain ⟨u,h4,h5⟩:=h3 i xs hi;exact ⟨u,h4,h5.keep hS hk⟩
def CLok (e:Env) (val:Val) (g:FuncId) (rs:List (Nat × Nat)) (v:Value):Prop:=∃ vs:Array Value,v = .func (.func g) #[] vs ∧ vs.size = rs.length ∧ ∀ (i:Nat) (r g':Nat),rs[i]? = some (r,g') → g' ≤ e.gen r ∧ (e.fresh r g' [] → vs[i]? = some (val (r,0) []))
theorem CLok.keep {e e':Env} {val val':Val} {g:FuncId} {rs:List (Nat × Nat)} {v:Value} (h:CLok e val g rs v) (hgen:∀ r,e.gen r ≤ e'.gen r) (hfr:∀ r g',g' ≤ e.gen r → e'.fresh r g' [] → e.fresh r g' [] ∧ val' (r,0) [] = val (r,0) []):CLok e' val' g rs v:=by
 obtain ⟨vs,h1,h2,h3⟩:=h;refine ⟨vs,h1,h2,fun i r g' hi=>?_⟩;obtain ⟨h4,h5⟩:=h3 i r g' hi;refine ⟨Nat.le_trans h4 (hgen r),fun hf=>?_⟩;obtain ⟨h6,h7⟩:=hfr r g' h4 hf;rw [h7]; exact h5 h6
def SV (e:Env) (w:World) (val:Val) (S:Nat → Prop) (s:Nat):AV → Value → Prop
 | .dead,_=>True
 | .c x,v=>RO w S x v
 | .agg xs,v=>∃ vs,v = .agg vs ∧ ROs w S xs vs
 | .own ag n,v=>TVok w S (e.con (s,0)) (val (s,0)) (.own ag n) v
 | .box,v=>(∃ t xs,e.con (s,0) = some ⟨some t,xs⟩) ∧ v = val (s,0) []
 | .ref r g p ag n,v=>g ≤ e.gen r ∧ ((∀ i,i < n → e.fresh r g (a6 p i)) → match ag with
  | false=>n = 1 ∧ v = val (r,0) p
  | true=>∃ vs,v = .agg vs ∧ vs.size = n ∧ ∀ i,i < n → vs[i]? = some (val (r,0) (a6 p i)))
 | .ptr r g p k,v=>g ≤ e.gen r ∧ (e.fresh r g p.dropLast → jbf (val (r,0)) p k v)
 | .rp xs,v=>RPok w S xs v
 | .fn g css,v=>FNok w S g css v
 | .clo g rs,v=>CLok e val g rs v
 | .tup ts,v=>∃ vs,v = .tuple vs ∧ vs.size = ts.length ∧ ∀ (i:Nat) (t:TV),ts[i]? = some t → ∃ u,vs[i]? = some u ∧ TVp w S (e.con (s,i + 1)) (val (s,i + 1)) t u
structure Base where
 w:World
 G:Nat → Prop
 R:Nat → Value
 S:Nat → Prop
def Base.mine (B:Base) (b:Nat):Prop:=B.w.heap.size ≤ b ∨ B.G b
structure Frm (B:Base) (w:World):Prop where
 os:w.os = B.w.os
 tape:w.tape = B.w.tape
 output:w.output = B.w.output
 size:B.w.heap.size ≤ w.heap.size
 block:∀ k,k < B.w.heap.size → ¬ B.G k → w.heap[k]? = B.w.heap[k]?
theorem Frm.below {B:Base} {w w':World} (h:Frm B w) (hb:Below w.heap.size w w'):Frm B w' :=
 ⟨hb.os.trans h.os,hb.tape.trans h.tape,hb.output.trans h.output,Nat.le_trans h.size hb.size,fun k hk hg=>(hb.block k (Nat.lt_of_lt_of_le hk h.size)).trans (h.block k hk hg)⟩
theorem Frm.setCell {B:Base} {w:World} (h:Frm B w) {p:Addr} (hp:B.mine p.block) (u:Value):Frm B (w.setCell p u) :=
 ⟨h.os,h.tape,h.output,by simpa [World.setCell] using h.size,fun k hk hg=>(Below.heap_setCell w p u k (fun e=>by subst e; exact hp.elim (fun hh=>by omega) hg)).trans (h.block k hk hg)⟩
theorem Frm.grown {B:Base} {w w':World} {row:Option Nat} (h:Frm B w) (hg:w.grownBy w' row) (hr:∀ k,row = some k → B.mine k):Frm B w' :=
 ⟨hg.os.trans h.os,hg.tape.trans h.tape,hg.output.trans h.output,Nat.le_trans h.size hg.size,fun k hk hgk=>(hg.block k (Nat.lt_of_lt_of_le hk h.size) (fun e=>(hr k e.symm).elim (fun hh=>by omega) hgk)).trans (h.block k hk hgk)⟩
structure StV (w0:Base) (e:Env) (a:Act) (w:World) (val:Val) (S:Nat → Prop):Prop where
 sz:a.tmps.size = e.n
 defers:a.defers = []
 mem:MemOk w e.con val S
 slot:∀ s,SV e w val S s (e.s s) (a.tmps.getD s undef)
 frm:Frm w0 w
 low:∀ b key p,OwnB e.con val b key p → w0.mine b
 rts:∀ s,e.n ≤ s → val (s,0) [] = w0.R s
 sS:∀ b,S b → w0.mine b ∨ w0.S b
def St (w0:Base) (e:Env) (a:Act) (w:World):Prop:=∃ val S,StV w0 e a w val S
theorem TVok.keep {w w':World} {S S':Nat → Prop} {con:Option Con} {va:aj → Value} {t:TV} {v:Value} (h:TVok w S con va t v) (hS:∀ b,S b → b < w.heap.size → S' b) (hk:∀ b,S b → b < w.heap.size → w'.heap[b]? = w.heap[b]?):TVok w' S' con va t v:=by
 cases t with
 | c x=>exact RO.keep h hS hk
 | agg xs=>obtain ⟨vs,h1,h2⟩:=h; exact ⟨vs,h1,h2.keep hS hk⟩
 | own ag n=>cases ag <;> exact h
theorem TVok.con {w:World} {S:Nat → Prop} {con:Option Con} {va va':aj → Value} {t:TV} {v:Value} (h:TVok w S con va t v) (hv:∀ i,va' [(0,i)] = va [(0,i)]):TVok w S con va' t v:=by
 cases t with
 | c x=>exact h
 | agg xs=>exact h
 | own ag n =>
  cases ag with
  | false=>obtain ⟨h1,h2,h3⟩:=h; exact ⟨h1,h2,by rw [hv]; exact h3⟩
  | true=>obtain ⟨xs,vs,h1,h2,h3,h4,h5⟩:=h; exact ⟨xs,vs,h1,h2,h3,h4,fun i hi=>by rw [hv]; exact h5 i hi⟩
theorem TVp.keep {w w':World} {S S':Nat → Prop} {con:Option Con} {va:aj → Value} {t:TV} {v:Value} (h:TVp w S con va t v) (hS:∀ b,S b → b < w.heap.size → S' b) (hk:∀ b,S b → b < w.heap.size → w'.heap[b]? = w.heap[b]?):TVp w' S' con va t v:=h.imp id fun h=>h.keep hS hk
theorem TVp.con {w:World} {S:Nat → Prop} {con:Option Con} {va va':aj → Value} {t:TV} {v:Value} (h:TVp w S con va t v) (hv:∀ i,va' [(0,i)] = va [(0,i)]):TVp w S con va' t v:=h.imp id fun h=>h.con hv
theorem SV.keep {e e':Env} {w w':World} {val val':Val} {S S':Nat → Prop} {s:Nat} {av:AV} {v:Value} (h:SV e w val S s av v)
 (hS:∀ b,S b → b < w.heap.size → S' b) (hk:∀ b,S b → b < w.heap.size → w'.heap[b]? = w.heap[b]?)
 (hcon:∀ i,e'.con (s,i) = e.con (s,i)) (hval:∀ i j,val' (s,i) [(0,j)] = val (s,i) [(0,j)]) (hv0:val' (s,0) [] = val (s,0) [])
 (hgen:∀ r,e.gen r ≤ e'.gen r) (hfr:∀ r g p,g ≤ e.gen r → e'.fresh r g p → e.fresh r g p ∧ val' (r,0) p = val (r,0) p):SV e' w' val' S' s av v:=by
 cases av with
 | dead=>trivial
 | c x=>exact RO.keep h hS hk
 | agg xs=>obtain ⟨vs,h1,h2⟩:=h; exact ⟨vs,h1,h2.keep hS hk⟩
 | own ag n =>
  have h1:TVok w S (e.con (s,0)) (val (s,0)) (.own ag n) v:=h;show TVok w' S' (e'.con (s,0)) (val' (s,0)) (.own ag n) v;rw [hcon 0];exact (h1.con (fun i=>hval 0 i)).keep hS hk
 | box =>
  obtain ⟨h1,h2⟩:=h;exact ⟨by rw [hcon 0]; exact h1,by rw [hv0]; exact h2⟩
 | ref r g p ag n =>
  obtain ⟨h1,h2⟩:=h;refine ⟨Nat.le_trans h1 (hgen r),fun hf=>?_⟩;have h3:=h2 fun i hi=>(hfr r g _ h1 (hf i hi)).1
  cases ag with
  | false =>
   obtain ⟨rfl,h3⟩:=h3;exact ⟨rfl,by rw [h3]; exact ((hfr r g p h1 (hf 0 (by omega))).2).symm⟩
  | true =>
   obtain ⟨vs,h4,h5,h6⟩:=h3;exact ⟨vs,h4,h5,fun i hi=>by rw [(hfr r g _ h1 (hf i hi)).2]; exact h6 i hi⟩
 | ptr r g p k =>
  obtain ⟨h1,h2⟩:=h;refine ⟨Nat.le_trans h1 (hgen r),fun hf=>?_⟩;obtain ⟨h3,h4⟩:=hfr r g p.dropLast h1 hf;obtain ⟨p',j,q,b,o,rfl,h5,h6⟩:=h2 h3;refine ⟨p',j,q,b,o,rfl,h5,?_⟩;rw [List.dropLast_concat] at h4
  rcases h6 with ⟨rfl,h6,h8,h7⟩ | ⟨hne,n,cap,h6⟩
  ·exact .inl ⟨rfl,h6,h8,by rw [h4]; exact h7⟩
  ·exact .inr ⟨hne,n,cap,by rw [h4]; exact h6⟩
 | rp xs =>
  obtain ⟨b,off,h1,h2,h3,h4⟩:=h;have hb:=hk b h2 h3;refine ⟨b,off,h1,hS b h2 h3,?_,fun i x hi=>?_⟩
  ·rw [Array.getElem?_eq_getElem h3] at hb;exact (Array.getElem?_eq_some_iff.1 hb).1
  ·obtain ⟨u,h5,h6⟩:=h4 i x hi;exact ⟨u,(World.cell?_of_block hb).trans h5,h6.keep hS hk⟩
 | tup ts =>
  obtain ⟨vs,h1,h2,h3⟩:=h;refine ⟨vs,h1,h2,fun i t hi=>?_⟩;obtain ⟨u,h4,h5⟩:=h3 i t hi;refine ⟨u,h4,?_⟩;rw [hcon (i + 1)];exact (h5.con (fun j=>hval (i + 1) j)).keep hS hk
 | fn g css=>exact FNok.keep h hS hk
 | clo g rs=>exact CLok.keep h hgen fun r g' h1 hf=>hfr r g' [] h1 hf
end
section
open Go Go.RowKit
def Env.set (e:Env) (d:Nat) (av:AV) (cs:Nat → Option Con):Env :=
 { n:=e.n,s:=fun x=>if x = d then av else e.s x,con:=fun key=>if key.1 = d then cs key.2 else e.con key,gen:=fun r=>if r = d then e.gen d + 1 else e.gen r,dirty:=fun r=>if r = d then [] else e.dirty r }
def noCon:Nat → Option Con:=fun _=>none
def oneCon (cn:Con):Nat → Option Con:=fun i=>if i = 0 then some cn else none
def Env.put (e:Env) (r:Nat) (p:aj) (y:C):Env :=
 { e with con:=fun key=>if key = (r,0) then (e.con key).map fun cn=>{ cn with xs:=puts cn.xs y p } else e.con key,dirty:=fun x=>if x = r then p :: e.dirty r else e.dirty x }
def ij (d:Nat) (cs:Nat → Option Con):bh → Option Con:=fun key=>if key.1 = d then cs key.2 else none
def dt (d:Nat) (vd:Nat → aj → Value) (val:Val):Val:=fun key=>if key.1 = d then vd key.2 else val key
theorem OwnB.con {con con':bh → Option Con} {val val':Val} {b:Nat} {key:bh} {p:aj} (h:OwnB con val b key p) (hc:con' key = con key) (hv:val' key = val key):OwnB con' val' b key p:=by
 rcases h with ⟨h1,h2,h3⟩ | ⟨cn,t,k,rows,n,cap,h1,h2,h3⟩
 ·exact .inl ⟨h1,by rw [hc]; exact h2,by rw [hv]; exact h3⟩
 ·exact .inr ⟨cn,t,k,rows,n,cap,by rw [hc]; exact h1,h2,by rw [hv]; exact h3⟩
theorem OwnB.some {con:bh → Option Con} {val:Val} {b:Nat} {key:bh} {p:aj} (h:OwnB con val b key p):∃ cn,con key = some cn:=by
 rcases h with ⟨-,⟨t,xs,h⟩,-⟩ | ⟨cn,t,k,rows,n,cap,h1,-⟩
 ·exact ⟨_,h⟩
 ·exact ⟨_,h1⟩
theorem NodeOk.keep {w w':World} {S S':Nat → Prop} {va:aj → Value} {p:aj} {c:C} (h:NodeOk w S va p c) (hS:∀ b,S b → b < w.heap.size → S' b) (hk:∀ b,S b → b < w.heap.size → w'.heap[b]? = w.heap[b]?)
 (ho:∀ t k rows b o n cap,c = .sl true t k rows → va p = .slice (some ⟨b,o,none⟩) n cap → b < w.heap.size → w'.heap[b]? = w.heap[b]?):NodeOk w' S' va p c:=by
 cases c with
 | p v=>exact h
 | hole=>trivial
 | sl own t k rows =>
  cases own with
  | false=>exact RO.keep h hS hk
  | true=>exact SlOk.keep h fun b o n cap hv hl=>ho t k rows b o n cap rfl hv hl
section
variable {w0:Base} {e:Env} {a:Act} {w:World} {val:Val} {S:Nat → Prop}
theorem StV.below (h:StV w0 e a w val S) {w':World} (hb:Below w.heap.size w w'):StV w0 e a w' val S:=by
 refine ⟨h.sz,h.defers,h.mem.below hb,fun s=>?_,h.frm.below hb,h.low,h.rts,h.sS⟩;exact (h.slot s).keep (fun _ h _=>h) (fun b _ hl=>hb.block b hl) (fun _=>rfl) (fun _ _=>rfl) rfl (fun _=>Nat.le_refl _) (fun _ _ _ _ hf=>⟨hf,rfl⟩)
theorem St.below (h:St w0 e a w) {w':World} (hb:Below w.heap.size w w'):St w0 e a w':=let ⟨val,S,h⟩:=h; ⟨val,S,h.below hb⟩
theorem o8 {a:Act} {d:Nat} {v:Value} (h:d < a.tmps.size) (s:Nat):(a.put (some d) v).tmps.getD s undef = if s = d then v else a.tmps.getD s undef:=by
 unfold Act.put;simp only [Array.getD_eq_getD_getElem?]
 by_cases hs:s = d
 ·subst hs;rw [if_pos rfl];simp [h]
 ·rw [if_neg hs,Array.getElem?_setIfInBounds_ne (Ne.symm hs)]
theorem MemOk.join {w':World} {con:bh → Option Con} (h:MemOk w con val S) (hb:Below w.heap.size w w') {d:Nat} {cs:Nat → Option Con} {vd:Nat → aj → Value} {S2:Nat → Prop}
 (hm:MemOk w' (ij d cs) (dt d vd val) (fun b=>S b ∨ S2 b)) (hnew:∀ b key p,OwnB (ij d cs) (dt d vd val) b key p → w.heap.size ≤ b) (hS2:∀ b,S2 b → w.heap.size ≤ b ∨ S b) :
 MemOk w' (fun key=>if key.1 = d then cs key.2 else con key) (dt d vd val) (fun b=>S b ∨ S2 b):=by
 have hcd:∀ key:bh,key.1 = d → (if key.1 = d then cs key.2 else con key) = ij d cs key:=fun key hk=>by rw [if_pos hk,ij,if_pos hk]
 have hco:∀ key:bh,key.1 ≠ d → (if key.1 = d then cs key.2 else con key) = con key:=fun key hk=>by rw [if_neg hk]
 have hvo:∀ key:bh,key.1 ≠ d → dt d vd val key = val key:=fun key hk=>by rw [dt,if_neg hk]
 have split:∀ b key p,OwnB (fun key=>if key.1 = d then cs key.2 else con key) (dt d vd val) b key p → (key.1 = d ∧ OwnB (ij d cs) (dt d vd val) b key p) ∨ (key.1 ≠ d ∧ OwnB con val b key p):=fun b key p ho=>by
  by_cases hk:key.1 = d
  ·exact .inl ⟨hk,ho.con (hcd key hk).symm rfl⟩
  ·exact .inr ⟨hk,ho.con (hco key hk).symm (hvo key hk).symm⟩
 refine ⟨fun key cn p c h1 h2=>?_,fun key t xs h1=>?_,fun b key p key' p' h1 h2=>?_,fun b hb'=>?_⟩
 ·by_cases hk:key.1 = d
  ·rw [hcd key hk] at h1;exact hm.node key cn p c h1 h2
  ·rw [hco key hk] at h1;rw [hvo key hk];exact (h.node key cn p c h1 h2).keep (fun b hb _=>.inl hb) (fun b _ hl=>hb.block b hl) (fun _ _ _ b _ _ _ _ _ hl=>hb.block b hl)
 ·by_cases hk:key.1 = d
  ·rw [hcd key hk] at h1;exact hm.root key t xs h1
  ·rw [hco key hk] at h1;rw [hvo key hk];exact (h.root key t xs h1).keep fun b _ hl=>hb.block b hl
 ·rcases split b key p h1 with ⟨hk,h1⟩ | ⟨hk,h1⟩ <;> rcases split b key' p' h2 with ⟨hk',h2⟩ | ⟨hk',h2⟩
  ·exact hm.inj b key p key' p' h1 h2
  ·have:=hnew b key p h1; have:=h.lt h2; omega
  ·have:=hnew b key' p' h2; have:=h.lt h1; omega
  ·exact h.inj b key p key' p' h1 h2
 ·rcases hb' with hb' | hb'
  ·obtain ⟨h1,h2⟩:=h.sep b hb';refine ⟨Nat.lt_of_lt_of_le h1 hb.size,fun key p ho=>?_⟩
   rcases split b key p ho with ⟨hk,ho⟩ | ⟨hk,ho⟩
   ·have:=hnew b key p ho; omega
   ·exact h2 key p ho
  ·refine ⟨(hm.sep b (.inr hb')).1,fun key p ho=>?_⟩
   rcases split b key p ho with ⟨hk,ho⟩ | ⟨hk,ho⟩
   ·exact (hm.sep b (.inr hb')).2 key p ho
   ·rcases hS2 b hb' with hh | hh
    ·have:=h.lt ho; omega
    ·exact (h.sep b hh).2 key p ho
theorem e8 {d:Nat} {av:AV} {cs:Nat → Option Con} {r g:Nat} {p:aj} (hg:g ≤ e.gen r) (hf:(e.set d av cs).fresh r g p):r ≠ d ∧ e.fresh r g p:=by
 obtain ⟨h1,h2⟩:=hf
 have hr:r ≠ d:=fun hr=>by
  subst hr;simp [Env.set] at h1;omega
 simp only [Env.set,if_neg hr] at h1 h2;exact ⟨hr,h1,h2⟩
theorem im (d:Nat) (av:AV) (cs:Nat → Option Con) (r:Nat):e.gen r ≤ (e.set d av cs).gen r:=by
 simp only [Env.set]
 by_cases h:r = d
 ·rw [if_pos h,h]; omega
 ·rw [if_neg h]; exact Nat.le_refl _
theorem StV.setG (h:StV w0 e a w val S) {d:Nat} {av:AV} {cs:Nat → Option Con} {v:Value} {w':World} {vd:Nat → aj → Value} {S2:Nat → Prop} (hd:d < e.n) (hb:Below w.heap.size w w')
 (hm:MemOk w' (ij d cs) (dt d vd val) (fun b=>S b ∨ S2 b)) (hnew:∀ b key p,OwnB (ij d cs) (dt d vd val) b key p → w.heap.size ≤ b) (hS2:∀ b,S2 b → w.heap.size ≤ b ∨ S b)
 (hv:SV (e.set d av cs) w' (dt d vd val) (fun b=>S b ∨ S2 b) d av v) :
 StV w0 (e.set d av cs) (a.put (some d) v) w' (dt d vd val) (fun b=>S b ∨ S2 b):=by
 refine ⟨?_,h.defers,h.mem.join hb hm hnew hS2,fun s=>?_,h.frm.below hb,fun b key p ho=>?_,fun s hs=>?_,fun b hb'=>?_⟩
 ·simp [Act.put,Env.set,h.sz]
 ·rw [o8 (by rw [h.sz]; exact hd)]
  by_cases hs:s = d
  ·subst hs;rw [if_pos rfl];have:(e.set s av cs).s s = av:=by simp [Env.set]
   rw [this]; exact hv
  ·rw [if_neg hs];have:(e.set d av cs).s s = e.s s:=by simp [Env.set,hs]
   rw [this];refine (h.slot s).keep (fun b hb _=>.inl hb) (fun b _ hl=>hb.block b hl) (fun i=>?_) (fun i j=>?_) ?_ (im d av cs) (fun r g p hg hf=>?_)
   ·simp [Env.set,hs]
   ·simp [dt,hs]
   ·simp [dt,hs]
   ·obtain ⟨hr,hf⟩:=e8 hg hf;exact ⟨hf,by simp [dt,hr]⟩
 ·by_cases hk:key.1 = d
  ·have:OwnB (ij d cs) (dt d vd val) b key p:=ho.con (by simp [Env.set,ij,hk]) rfl;exact .inl (Nat.le_trans h.frm.size (hnew b key p this))
  ·have:OwnB e.con val b key p:=ho.con (by simp [Env.set,hk]) (by simp [dt,hk]);exact h.low b key p this
 ·rw [show dt d vd val (s,0) = val (s,0) by simp [dt,show s ≠ d from fun he=>by have hs:e.n ≤ s:=hs; omega]];exact h.rts s hs
 ·rcases hb' with hb' | hb'
  ·exact h.sS b hb'
  ·exact (hS2 b hb').elim (fun hh=>.inl (.inl (Nat.le_trans h.frm.size hh))) (h.sS b)
theorem MemOk.noneD {w:World} {S:Nat → Prop} (d:Nat) (val:Val) (hS:∀ b,S b → b < w.heap.size):MemOk w (ij d noCon) val S:=by
 have hc:∀ key,ij d noCon key = none:=fun key=>by unfold ij noCon; split <;> rfl
 refine ⟨fun key cn p c h1=>?_,fun key t xs h1=>?_,fun b key p key' p' h1=>?_,fun b hb=>⟨hS b hb,fun key p ho=>?_⟩⟩
 ·rw [hc] at h1; cases h1
 ·rw [hc] at h1; cases h1
 ·obtain ⟨cn,h⟩:=h1.some; rw [hc] at h; cases h
 ·obtain ⟨cn,h⟩:=ho.some; rw [hc] at h; cases h
theorem OwnB.noneD {d:Nat} {val:Val} {b:Nat} {key:bh} {p:aj} (h:OwnB (ij d noCon) val b key p):False:=by
 obtain ⟨cn,h⟩:=h.some;unfold ij noCon at h;split at h <;> cases h
theorem Ef (d:Nat) (val:Val):dt d (fun i=>val (d,i)) val = val:=by
 funext key;unfold dt;split
 ·rename_i h; rw [← h]
 ·rfl
theorem pd (S:Nat → Prop):(fun b=>S b ∨ False) = S:=by funext b; simp
theorem StV.setP (h:StV w0 e a w val S) {d:Nat} {av:AV} {v:Value} {w':World} (hd:d < e.n) (hb:Below w.heap.size w w') (hv:SV (e.set d av noCon) w' val S d av v) :
 StV w0 (e.set d av noCon) (a.put (some d) v) w' val S:=by
 have:=h.setG (cs:=noCon) (vd:=fun i=>val (d,i)) (S2:=fun _=>False) hd hb (MemOk.noneD _ _ (fun b hb'=>by rcases hb' with hb' | hb'; exact Nat.lt_of_lt_of_le (h.mem.sep b hb').1 hb.size; exact hb'.elim)) (fun _ _ _ ho=>ho.noneD.elim) (fun _ hf=>hf.elim) (v:=v) (av:=av) (by rw [Ef,pd]; exact hv);rwa [Ef,pd] at this
theorem StV.own_block (h:StV w0 e a w val S) {r:Nat} {p':aj} {j q k b o:Nat} {cn:Con} {c0:C} (hc:e.con (r,0) = some cn) (hl:look cn.xs (p' ++ [(j,q)]) = some c0)
 (ha:(p' = [] ∧ j = 0 ∧ o = 0 ∧ val (r,0) [] = .pointer (some ⟨b,0,none⟩) ∧ ∃ t,cn.box = some t) ∨ (p' ≠ [] ∧ (∃ n cap,val (r,0) p' = .slice (some ⟨b,o,none⟩) n cap) ∧ ∀ t k' rows,look cn.xs p' = some (.sl true t k' rows) → k' = k)) :
 OwnB e.con val b (r,0) p' ∧ ∃ cur t,w.heap[b]? = some (.cells cur t (0,0)) ∧ cur[o + (j * k + q)]? = some (val (r,0) (p' ++ [(j,q)])) ∧
  (p' = [] → cn.box = some t ∧ cur.size = cn.xs.length ∧ ∀ i,i < cn.xs.length → cur[i]? = some (val (r,0) [(0,i)])) ∧
  (p' ≠ [] → ∃ rows cap,look cn.xs p' = some (.sl true t k rows) ∧ val (r,0) p' = .slice (some ⟨b,o,none⟩) rows.length cap ∧ 0 < k ∧ (∀ r ∈ rows,r.length = k) ∧ rows.length ≤ cap ∧ cap ≤ maxLen ∧ o + cap * k ≤ cur.size ∧ ∀ j q c,cg rows j q = some c → cur[o + (j * k + q)]? = some (val (r,0) (p' ++ [(j,q)]))):=by
 rcases ha with ⟨rfl,rfl,rfl,hv,t,ht⟩ | ⟨hne,⟨n,cap,hv⟩,hk⟩
 ·obtain ⟨box,xs⟩:=cn;simp only at ht hl;subst ht;rw [List.nil_append,dv] at hl;have hq:=(List.getElem?_eq_some_iff.1 hl).1;obtain ⟨b',cur,h1,h2,h3,h4⟩:=h.mem.root (r,0) t xs hc;rw [hv] at h1;cases h1;refine ⟨.inl ⟨rfl,⟨t,xs,hc⟩,hv⟩,cur,t,h2,by rw [Nat.zero_mul,Nat.zero_add,Nat.zero_add,List.nil_append]; exact h4 q hq,fun _=>⟨rfl,h3,h4⟩,fun h=>absurd rfl h⟩
 ·obtain ⟨t,k',rows,h1,h2⟩:=(gx hne).1 hl;obtain rfl:=hk t k' rows h1;obtain ⟨h3,h4,h5⟩:=h.mem.node (r,0) cn p' _ hc h1
  rcases h5 with ⟨-,h5⟩ | ⟨b',o',cap',cur,h5,h6,h7,h8,h9,h10⟩
  ·rw [hv] at h5; cases h5
  ·have h5':=h5;rw [hv] at h5;cases h5;exact ⟨.inr ⟨cn,t,k',rows,_,_,hc,h1,_,hv⟩,cur,t,h6,h10 j q c0 h2,fun h=>absurd h hne,fun _=>⟨rows,cap,h1,hv,h3,h4,h7,h8,h9,h10⟩⟩
end
end
section
open Go Go.RowKit
def C.flat:C → Bool
 | .sl true _ _ _=>false
 | _=>true
theorem flat_at {y:C} (h:y.flat = true) {s:Nat × Nat} {r:aj}:y.at (s :: r) = none:=by
 cases y with
 | p v=>simp [C.at]
 | hole=>simp [C.at]
 | sl own t k rows=>cases own with | false=>simp [C.at] | true=>simp [C.flat] at h
theorem Dd (y:C):∀ (p:aj) (s:Nat × Nat) (r:aj) (c:C),(C.put y (p ++ s :: r) c).at p = (c.at p).map (C.put y (s :: r))
 | [],s,r,c=>by rw [da,da]; rfl
 | s' :: p,s,r,c=>by
  cases c with
  | p v=>simp [C.put,C.at]
  | hole=>simp [C.put,C.at]
  | sl own t k rows =>
   cases own with
   | false=>simp [C.put,C.at]
   | true =>
    obtain ⟨j,q⟩:=s';rw [List.cons_append,lw,d7,d7,gj,if_pos ⟨rfl,rfl⟩]
    cases cg rows j q with
    | none=>rfl
    | some c'=>simp only [Option.map_some,Option.bind_some]; exact Dd y p s r c'
theorem wx {xs:List C} {y:C} {p:aj} {s:Nat × Nat} {r:aj} (hp:p ≠ []):look (puts xs y (p ++ s :: r)) p = (look xs p).map (C.put y (s :: r)):=by
 cases p with
 | nil=>exact absurd rfl hp
 | cons s' p =>
  obtain ⟨j,i⟩:=s'
  cases j with
  | succ j=>rfl
  | zero =>
   simp only [List.cons_append,puts,look,fy,if_pos]
   cases xs[i]? with
   | none=>rfl
   | some c=>simp only [Option.map_some,Option.bind_some]; exact Dd y p s r c
theorem wt (t p:aj):(∃ r,p = t ++ r) ∨ (∃ s r,t = p ++ s :: r) ∨ (¬ t <+: p ∧ ¬ p <+: t):=by
 by_cases h:t <+: p
 ·obtain ⟨r,rfl⟩:=h; exact .inl ⟨r,rfl⟩
 ·by_cases h':p <+: t
  ·obtain ⟨r,rfl⟩:=h'
   cases r with
   | nil=>exact absurd (by simp) h
   | cons s r=>exact .inr (.inl ⟨s,r,rfl⟩)
  ·exact .inr (.inr ⟨h,h'⟩)
theorem Z3 {j q j' q' k:Nat} (hq:q < k) (hq':q' < k) (h:j * k + q = j' * k + q'):j = j' ∧ q = q':=by
 have h1:(j * k + q) / k = j:=by rw [Nat.mul_comm,Nat.mul_add_div (by omega),Nat.div_eq_of_lt hq]; omega
 have h2:(j' * k + q') / k = j':=by rw [Nat.mul_comm,Nat.mul_add_div (by omega),Nat.div_eq_of_lt hq']; omega
 have e:j = j':=by rw [← h1,← h2,h]
 subst e;exact ⟨rfl,by omega⟩
def ql (val:Val) (key:bh) (p:aj) (u:Value):Val:=fun key' p'=>if key' = key ∧ p' = p then u else val key' p'
theorem vy (val:Val) (key:bh) (p:aj) (u:Value):ql val key p u key p = u:=by simp [ql]
theorem dh {val:Val} {key key':bh} {p p':aj} {u:Value} (h:¬ (key' = key ∧ p' = p)):ql val key p u key' p' = val key' p':=by simp only [ql,if_neg h]
section
variable {w0:Base} {e:Env} {a:Act} {w:World} {val:Val} {S:Nat → Prop}
def Target (e:Env) (val:Val) (r:Nat) (p':aj) (j q k b o:Nat) (cn:Con):Prop :=
 (p' = [] ∧ j = 0 ∧ o = 0 ∧ val (r,0) [] = .pointer (some ⟨b,0,none⟩) ∧ ∃ t,cn.box = some t) ∨ (p' ≠ [] ∧ (∃ n cap,val (r,0) p' = .slice (some ⟨b,o,none⟩) n cap) ∧ ∀ t k' rows,look cn.xs p' = some (.sl true t k' rows) → k' = k)
theorem StV.putC (h:StV w0 e a w val S) {r:Nat} {p':aj} {j q k b o:Nat} {cn:Con} {c0 y:C} {u:Value} (hc:e.con (r,0) = some cn) (hl:look cn.xs (p' ++ [(j,q)]) = some c0)
 (ha:Target e val r p' j q k b o cn) (hy:y.flat = true) (hr:RO w S y u) :
 StV w0 (e.put r (p' ++ [(j,q)]) y) a (w.setCell ⟨b,o + (j * k + q),none⟩ u) (ql val (r,0) (p' ++ [(j,q)]) u) S:=by
 obtain ⟨ho,cur,t,hb,hcur,hbox,hsl⟩:=h.own_block hc hl ha;have htl:p' ++ [(j,q)] ≠ []:=by simp
 have hb':(w.setCell ⟨b,o + (j * k + q),none⟩ u).heap[b]? = some (.cells (cur.setIfInBounds (o + (j * k + q)) u) t (0,0)):=by
  simp [World.setCell,Array.getElem?_modify,hb]
 have hoth:∀ b',b' ≠ b → (w.setCell ⟨b,o + (j * k + q),none⟩ u).heap[b']? = w.heap[b']?:=fun b' hn=>Below.heap_setCell w ⟨b,o + (j * k + q),none⟩ u b' hn;have hsb:∀ b',S b' → (w.setCell ⟨b,o + (j * k + q),none⟩ u).heap[b']? = w.heap[b']?:=fun b' hs=>hoth b' fun e=>by subst e; exact (h.mem.sep b' hs).2 _ _ ho
 have hcon:∀ key,key ≠ (r,0) → (e.put r (p' ++ [(j,q)]) y).con key = e.con key:=fun key hk=>by simp [Env.put,hk]
 have hconr:(e.put r (p' ++ [(j,q)]) y).con (r,0) = some { cn with xs:=puts cn.xs y (p' ++ [(j,q)]) }:=by simp [Env.put,hc]
 have hnoy:∀ r1 d,y.at r1 = some d → r1 = [] ∧ d = y:=fun r1 d hd=>by
  cases r1 with
  | nil=>rw [da] at hd; cases hd; exact ⟨rfl,rfl⟩
  | cons s r1=>rw [flat_at hy] at hd; cases hd
 have hlook:∀ p c,look (puts cn.xs y (p' ++ [(j,q)])) p = some c → (p = p' ++ [(j,q)] ∧ c = y) ∨ (p ≠ p' ++ [(j,q)] ∧ ((∃ s r1,p' ++ [(j,q)] = p ++ s :: r1 ∧ ∃ c1,look cn.xs p = some c1 ∧ c = C.put y (s :: r1) c1) ∨ (look cn.xs p = some c ∧ ¬ p <+: p' ++ [(j,q)]))):=fun p c hp=>by
  rcases wt (p' ++ [(j,q)]) p with ⟨r1,rfl⟩ | ⟨s,r1,he⟩ | ⟨h1,h2⟩
  ·rw [yq hl] at hp;obtain ⟨rfl,rfl⟩:=hnoy r1 c hp;exact .inl ⟨by simp,rfl⟩
  ·refine .inr ⟨fun e1=>?_,.inl ⟨s,r1,he,?_⟩⟩
   ·rw [e1] at he; simp at he
   ·have hpn:p ≠ []:=eh hp;rw [he,wx hpn] at hp
    cases h1:look cn.xs p with
    | none=>rw [h1] at hp; cases hp
    | some c1=>rw [h1] at hp; simp only [Option.map_some,Option.some.injEq] at hp; exact ⟨c1,rfl,hp.symm⟩
  ·rw [gk h1 h2] at hp;exact .inr ⟨fun e1=>h1 (by rw [e1]; exact List.prefix_rfl),.inr ⟨hp,h2⟩⟩
 have hown:∀ b1 key p,OwnB (e.put r (p' ++ [(j,q)]) y).con (ql val (r,0) (p' ++ [(j,q)]) u) b1 key p → OwnB e.con val b1 key p:=fun b1 key p h1=>by
  by_cases hk:key = (r,0)
  ·subst hk
   rcases h1 with ⟨rfl,⟨t',xs',h2⟩,h3⟩ | ⟨cn',t',k',rows',n',cap',h1,h2,o',h3⟩
   ·rw [hconr] at h2;simp only [Option.some.injEq,Con.mk.injEq] at h2;obtain ⟨hbx,-⟩:=h2;refine .inl ⟨rfl,⟨t',cn.xs,?_⟩,?_⟩
    ·rw [hc]; obtain ⟨bx,xs⟩:=cn; cases hbx; rfl
    ·rw [dh (fun hh=>htl hh.2.symm)] at h3; exact h3
   ·rw [hconr] at h1;cases h1
    rcases hlook p _ h2 with ⟨rfl,rfl⟩ | ⟨hne,⟨s,r1,he,c1,h4,h5⟩ | ⟨h4,-⟩⟩
    ·simp [C.flat] at hy
    ·rw [dh (fun hh=>hne hh.2)] at h3;have:c1.hd = (C.sl true t' k' rows').hd:=by rw [h5,Lu]
     cases c1 with
     | p v=>simp [C.hd] at this
     | hole=>simp [C.hd] at this
     | sl own t2 k2 rows2 =>
      cases own with
      | false=>simp [C.hd] at this
      | true=>exact .inr ⟨cn,t2,k2,rows2,n',cap',hc,h4,o',h3⟩
    ·rw [dh (fun hh=>hne hh.2)] at h3;exact .inr ⟨cn,t',k',rows',n',cap',hc,h4,o',h3⟩
  ·exact h1.con (hcon key hk).symm (funext fun p=>(dh (fun hh=>hk hh.1)).symm)
 have hkeep:∀ b1 key p,OwnB e.con val b1 key p → ¬ (key = (r,0) ∧ p = p') → (w.setCell ⟨b,o + (j * k + q),none⟩ u).heap[b1]? = w.heap[b1]?:=fun b1 key p h1 hn=>hoth b1 fun e1=>by
  subst e1;exact hn (h.mem.inj b1 key p (r,0) p' h1 ho)
 have hqk:p' ≠ [] → q < k ∧ ∃ rows,look cn.xs p' = some (.sl true t k rows) ∧ j < rows.length:=fun hne=>by
  obtain ⟨rows,cap,h1,h2,h3,h4,-⟩:=hsl hne;obtain ⟨t2,k2,rows2,h5,h6⟩:=(gx hne).1 hl;rw [h1] at h5;cases h5;exact ⟨F2 h4 h6,rows,h1,we h6⟩
 have hlt:o + (j * k + q) < cur.size:=(Array.getElem?_eq_some_iff.1 hcur).1;refine ⟨h.sz,h.defers,⟨fun key cn' p c h1 h2=>?_,fun key t' xs' h1=>?_,fun b1 key p key' p2 h1 h2=>h.mem.inj b1 key p key' p2 (hown _ _ _ h1) (hown _ _ _ h2),fun b1 hb1=>⟨by have:=(h.mem.sep b1 hb1).1; simpa [World.setCell] using this,fun key p h1=>(h.mem.sep b1 hb1).2 key p (hown _ _ _ h1)⟩⟩,fun s=>?_,h.frm.setCell (h.low b _ _ ho) u,fun b1 key p h1=>h.low b1 key p (hown _ _ _ h1),fun s hs=>(dh fun hh=>htl hh.2.symm).trans (h.rts s hs),h.sS⟩
 ·by_cases hk:key = (r,0)
  ·subst hk;rw [hconr] at h1;cases h1
   rcases hlook p c h2 with ⟨rfl,rfl⟩ | ⟨hne,h3⟩
   ·cases c with
    | p v=>cases hr; exact vy _ _ _ _
    | hole=>trivial
    | sl own t2 k2 rows2 =>
     cases own with
     | true=>simp [C.flat] at hy
     | false =>
      show RO _ _ _ _;rw [vy];exact hr.keep (fun b hb _=>hb) fun b hb _=>hsb b hb
   ·have hv:ql val (r,0) (p' ++ [(j,q)]) u (r,0) p = val (r,0) p:=dh fun hh=>hne hh.2
    rcases h3 with ⟨s,r1,he,c1,h4,rfl⟩ | ⟨h4,hnp⟩
    ·have hold:=h.mem.node (r,0) cn p c1 hc h4;have hpn:p ≠ []:=eh h4
     cases c1 with
     | p v=>simp only [C.put]; show _ = _; rw [hv]; exact hold
     | hole=>trivial
     | sl own t2 k2 rows2 =>
      cases own with
      | false =>
       simp only [C.put];show RO _ _ _ _;rw [hv];exact RO.keep hold (fun b hb _=>hb) fun b hb _=>hsb b hb
      | true =>
       obtain ⟨j1,q1⟩:=s;rw [lw];obtain ⟨g1,g2,g3⟩:=hold;refine ⟨g1,fun row hrow=>?_,?_⟩
       ·obtain ⟨i,hi,rfl⟩:=List.getElem_of_mem hrow;have hi':i < rows2.length:=by simpa using hi
        have e1:(rows2.modify j1 fun row=>row.modify q1 (C.put y r1))[i]? = if j1 = i then (rows2[i]?).map (fun row=>row.modify q1 (C.put y r1)) else rows2[i]?:=fy _ _ _ _
        rw [List.getElem?_eq_getElem hi,List.getElem?_eq_getElem hi'] at e1;have hg:=g2 _ (List.getElem_mem hi');split at e1
        ·simp only [Option.map_some,Option.some.injEq] at e1;rw [e1]; simpa using hg
        ·simp only [Option.some.injEq] at e1;rw [e1]; exact hg
       ·rw [hv]
        rcases g3 with ⟨rfl,g3⟩ | ⟨b2,o2,cap2,cur2,g4,g5,g6,g7,g8,g9⟩
        ·exact .inl ⟨by simp,g3⟩
        ·refine .inr ?_;rw [List.length_modify];have ho2:OwnB e.con val b2 (r,0) p:=.inr ⟨cn,t2,k2,rows2,_,_,hc,h4,_,g4⟩
         by_cases hpp:p = p'
         ·subst hpp
          have e2:r1 = [] ∧ j1 = j ∧ q1 = q:=by
           have:=List.append_cancel_left he;simp at this;exact ⟨this.2,this.1.1.symm,this.1.2.symm⟩
          obtain ⟨rfl,rfl,rfl⟩:=e2;obtain ⟨hq,rows3,h5,h6⟩:=hqk hpn;rw [h4] at h5;cases h5
          rcases ha with ⟨rfl,-⟩ | ⟨-,⟨n',cap',ha⟩,-⟩
          ·exact absurd rfl hpn
          ·rw [g4] at ha;cases ha;rw [hb] at g5;cases g5;refine ⟨b,_,cap2,_,g4,hb',g6,g7,by simpa using g8,fun j2 q2 c2 hc2=>?_⟩;rw [gj] at hc2
           by_cases hjq:j1 = j2 ∧ q1 = q2
           ·obtain ⟨rfl,rfl⟩:=hjq;rw [vy];simp [hlt]
           ·rw [if_neg hjq] at hc2;have hq2:=F2 g2 hc2
            rw [Array.getElem?_setIfInBounds_ne (fun hh=>hjq (Z3 hq hq2 (Nat.add_left_cancel hh))),dh (fun hh=>hjq (by
             have:=List.append_cancel_left hh.2;simp at this
             exact ⟨this.1.symm,this.2.symm⟩))]
            exact g9 j2 q2 c2 hc2
         ·refine ⟨b2,o2,cap2,cur2,g4,(hkeep b2 _ _ ho2 fun hh=>hpp hh.2).trans g5,g6,g7,g8,fun j2 q2 c2 hc2=>?_⟩;have hne2:p ++ [(j2,q2)] ≠ p' ++ [(j,q)]:=fun hh=>hpp (List.append_inj_left' hh rfl);rw [dh fun hh=>hne2 hh.2];rw [gj] at hc2
          by_cases hjq:j1 = j2 ∧ q1 = q2
          ·rw [if_pos hjq] at hc2
           cases hx:cg rows2 j2 q2 with
           | none=>rw [hx] at hc2; cases hc2
           | some c3=>exact g9 j2 q2 c3 hx
          ·rw [if_neg hjq] at hc2;exact g9 j2 q2 c2 hc2
    ·rw [show ql val (r,0) (p' ++ [(j,q)]) u (r,0) = ql val (r,0) (p' ++ [(j,q)]) u (r,0) from rfl];have hold:=h.mem.node (r,0) cn p c hc h4;have hpn:p ≠ []:=eh h4
     cases c with
     | p v=>show _ = _; rw [hv]; exact hold
     | hole=>trivial
     | sl own t2 k2 rows2 =>
      cases own with
      | false =>
       show RO _ _ _ _;rw [hv];exact RO.keep hold (fun b hb _=>hb) fun b hb _=>hsb b hb
      | true =>
       obtain ⟨g1,g2,g3⟩:=hold;refine ⟨g1,g2,?_⟩;rw [hv]
       rcases g3 with g3 | ⟨b2,o2,cap2,cur2,g4,g5,g6,g7,g8,g9⟩
       ·exact .inl g3
       ·have hpp:p ≠ p':=fun e1=>hnp (by rw [e1]; exact List.prefix_append _ _);have ho2:OwnB e.con val b2 (r,0) p:=.inr ⟨cn,t2,k2,rows2,_,_,hc,h4,_,g4⟩;refine .inr ⟨b2,o2,cap2,cur2,g4,(hkeep b2 _ _ ho2 fun hh=>hpp hh.2).trans g5,g6,g7,g8,fun j2 q2 c2 hc2=>?_⟩;have hne2:p ++ [(j2,q2)] ≠ p' ++ [(j,q)]:=fun hh=>hpp (List.append_inj_left' hh rfl);rw [dh fun hh=>hne2 hh.2];exact g9 j2 q2 c2 hc2
  ·rw [hcon key hk] at h1;have e1:ql val (r,0) (p' ++ [(j,q)]) u key = val key:=funext fun p=>dh fun hh=>hk hh.1;rw [e1];exact (h.mem.node key cn' p c h1 h2).keep (fun b hb _=>hb) (fun b hb _=>hsb b hb) fun t2 k2 rows2 b2 o2 n2 cap2 hcc hv _=>hkeep b2 key p (.inr ⟨cn',t2,k2,rows2,n2,cap2,h1,by rw [h2,hcc],o2,hv⟩) fun hh=>hk hh.1
 ·by_cases hk:key = (r,0)
  ·subst hk;rw [hconr] at h1;simp only [Option.some.injEq,Con.mk.injEq] at h1;have hcb:cn.box = some t':=h1.1;have hxs:xs' = puts cn.xs y (p' ++ [(j,q)]):=h1.2.symm;have hc':e.con (r,0) = some ⟨some t',cn.xs⟩:=by rw [hc]; obtain ⟨bx,xs⟩:=cn; cases hcb; rfl
   obtain ⟨b2,cur2,g1,g2,g3,g4⟩:=h.mem.root (r,0) t' cn.xs hc';have g1':ql val (r,0) (p' ++ [(j,q)]) u (r,0) [] = .pointer (some ⟨b2,0,none⟩):=by rw [dh fun hh=>htl hh.2.symm]; exact g1
   rw [hxs]
   by_cases hp:p' = []
   ·subst hp
    rcases ha with ⟨-,rfl,rfl,ha,-⟩ | ⟨hne,-⟩
    ·rw [g1] at ha;cases ha;rw [hb] at g2;cases g2;refine ⟨b,_,g1',hb',by simpa [dc] using g3,fun i hi=>?_⟩;rw [dc] at hi;rw [Nat.zero_mul,Nat.zero_add,Nat.zero_add]
     by_cases hiq:i = q
     ·subst hiq;rw [List.nil_append,vy];simp [show i < cur.size by omega]
     ·rw [Array.getElem?_setIfInBounds_ne (Ne.symm hiq),dh (fun hh=>hiq (by simpa using hh.2))];exact g4 i hi
    ·exact absurd rfl hne
   ·have ho2:OwnB e.con val b2 (r,0) []:=.inl ⟨rfl,⟨t',cn.xs,hc'⟩,g1⟩;refine ⟨b2,cur2,g1',(hkeep b2 _ _ ho2 fun hh=>hp hh.2.symm).trans g2,by rw [dc]; exact g3,fun i hi=>?_⟩;rw [dc] at hi
    rw [dh (fun hh=>hp (by
     have:=congrArg List.length hh.2;simp at this
     exact this))]
    exact g4 i hi
  ·rw [hcon key hk] at h1;have e1:ql val (r,0) (p' ++ [(j,q)]) u key = val key:=funext fun p=>dh fun hh=>hk hh.1;rw [e1];exact (h.mem.root key t' xs' h1).keep fun b2 hv _=>hkeep b2 key [] (.inl ⟨rfl,⟨t',xs',h1⟩,hv⟩) fun hh=>hk hh.1
 ·have hsv:=h.slot s;show SV _ _ _ _ s (e.s s) _
  have hfr:∀ r1 g p,g ≤ e.gen r1 → (e.put r (p' ++ [(j,q)]) y).fresh r1 g p → e.fresh r1 g p ∧ ql val (r,0) (p' ++ [(j,q)]) u (r1,0) p = val (r1,0) p:=fun r1 g p _ hf=>by
   obtain ⟨f1,f2⟩:=hf
   by_cases hr1:r1 = r
   ·subst hr1;simp only [Env.put,if_pos] at f1 f2;refine ⟨⟨f1,fun d hd=>f2 d (List.mem_cons_of_mem _ hd)⟩,dh fun hh=>?_⟩;exact f2 _ (List.mem_cons_self ..) (by rw [hh.2]; exact List.prefix_rfl)
   ·simp only [Env.put,if_neg hr1] at f1 f2;exact ⟨⟨f1,f2⟩,dh fun hh=>hr1 (by simpa using hh.1)⟩
  by_cases hs:s = r
  ·subst hs
   have hrest:∀ {av:AV} {v:Value},SV e w val S s av v → (∀ ag n,av ≠ .own ag n) → av ≠ .box → SV (e.put s (p' ++ [(j,q)]) y) (w.setCell ⟨b,o + (j * k + q),none⟩ u) (ql val (s,0) (p' ++ [(j,q)]) u) S s av v:=fun {av v} hav hno hnb=>by
    cases av with
    | own ag n=>exact absurd rfl (hno ag n)
    | box=>exact absurd rfl hnb
    | dead=>trivial
    | c x=>exact RO.keep hav (fun b hb _=>hb) fun b hb _=>hsb b hb
    | agg xs=>obtain ⟨vs,h1,h2⟩:=hav; exact ⟨vs,h1,h2.keep (fun b hb _=>hb) fun b hb _=>hsb b hb⟩
    | rp xs =>
     obtain ⟨b1,off,h1,h2,h3,h4⟩:=hav;refine ⟨b1,off,h1,h2,by simpa [World.setCell] using h3,fun i x hi=>?_⟩;obtain ⟨u1,h5,h6⟩:=h4 i x hi;exact ⟨u1,(World.cell?_of_block (hsb b1 h2)).trans h5,h6.keep (fun b hb _=>hb) fun b hb _=>hsb b hb⟩
    | ref r1 g p ag n =>
     obtain ⟨h1,h2⟩:=hav;refine ⟨h1,fun hf=>?_⟩;have h3:=h2 fun i hi=>(hfr r1 g _ h1 (hf i hi)).1
     cases ag with
     | false =>
      obtain ⟨rfl,h3⟩:=h3;exact ⟨rfl,by rw [h3]; exact ((hfr r1 g p h1 (hf 0 (by omega))).2).symm⟩
     | true =>
      obtain ⟨vs,h4,h5,h6⟩:=h3;exact ⟨vs,h4,h5,fun i hi=>by rw [(hfr r1 g _ h1 (hf i hi)).2]; exact h6 i hi⟩
    | ptr r1 g p k1 =>
     obtain ⟨h1,h2⟩:=hav;refine ⟨h1,fun hf=>?_⟩;obtain ⟨h3,h4⟩:=hfr r1 g p.dropLast h1 hf;obtain ⟨p1,j1,q1,b1,o1,rfl,h5,h6⟩:=h2 h3;refine ⟨p1,j1,q1,b1,o1,rfl,h5,?_⟩;rw [List.dropLast_concat] at h4
     rcases h6 with ⟨rfl,h6,h8,h7⟩ | ⟨hne,n,cap,h6⟩
     ·exact .inl ⟨rfl,h6,h8,by rw [h4]; exact h7⟩
     ·exact .inr ⟨hne,n,cap,by rw [h4]; exact h6⟩
    | tup ts =>
     obtain ⟨vs,h1,h2,h3⟩:=hav;refine ⟨vs,h1,h2,fun i t1 hi=>?_⟩;obtain ⟨u1,h4,h5⟩:=h3 i t1 hi;refine ⟨u1,h4,?_⟩;rw [hcon (s,i + 1) (by simp),show ql val (s,0) (p' ++ [(j,q)]) u (s,i + 1) = val (s,i + 1) from funext fun p=>dh fun hh=>by simp at hh];exact h5.keep (fun b hb _=>hb) fun b hb _=>hsb b hb
    | fn g css=>exact FNok.keep hav (fun b hb _=>hb) fun b hb _=>hsb b hb
    | clo g rs=>exact CLok.keep hav (fun _=>Nat.le_refl _) fun r g' h1 hf=>hfr r g' [] h1 hf
   cases hav:e.s s with
   | own ag n =>
    rw [hav] at hsv;show TVok _ _ _ _ _ _;rw [hconr]
    have hnb:p' ≠ []:=fun hp=>by
     rcases ha with ⟨-,-,-,-,t',hbx⟩ | ⟨hne,-⟩
     ·cases ag with
      | false=>obtain ⟨⟨x,h1⟩,-⟩:=hsv; rw [hc] at h1; cases h1; cases hbx
      | true=>obtain ⟨xs,vs,h1,-⟩:=hsv; rw [hc] at h1; cases h1; cases hbx
     ·exact hne hp
    have hv1:∀ i,ql val (s,0) (p' ++ [(j,q)]) u (s,0) [(0,i)] = val (s,0) [(0,i)]:=fun i=>dh fun hh=>hnb (by
     have:=congrArg List.length hh.2;simp at this
     exact this)
    cases ag with
    | false =>
     obtain ⟨⟨x,h1⟩,h2,h3⟩:=hsv;rw [hc] at h1;cases h1;have hpl:=dc [x] y (p' ++ [(j,q)]);obtain ⟨x',hx'⟩:=List.length_eq_one_iff.1 (by simpa using hpl);exact ⟨⟨x',by simp [hx']⟩,h2,by rw [hv1]; exact h3⟩
    | true =>
     obtain ⟨xs,vs,h1,h2,h3,h4,h5⟩:=hsv;rw [hc] at h1;cases h1;exact ⟨_,vs,rfl,by rw [dc]; exact h2,h3,h4,fun i hi=>by rw [hv1]; exact h5 i hi⟩
   | box =>
    rw [hav] at hsv;obtain ⟨⟨t',xs',h1⟩,h2⟩:=hsv;rw [hc] at h1;cases h1;exact ⟨⟨t',_,hconr⟩,by rw [dh fun hh=>htl hh.2.symm]; exact h2⟩
   | dead=>trivial
   | c x=>rw [hav] at hsv; exact hrest hsv (by simp) (by simp)
   | agg xs=>rw [hav] at hsv; exact hrest hsv (by simp) (by simp)
   | ref r1 g p ag n=>rw [hav] at hsv; exact hrest hsv (by simp) (by simp)
   | ptr r1 g p k1=>rw [hav] at hsv; exact hrest hsv (by simp) (by simp)
   | rp xs=>rw [hav] at hsv; exact hrest hsv (by simp) (by simp)
   | tup ts=>rw [hav] at hsv; exact hrest hsv (by simp) (by simp)
   | fn g css=>rw [hav] at hsv; exact hrest hsv (by simp) (by simp)
   | clo g rs=>rw [hav] at hsv; exact hrest hsv (by simp) (by simp)
  ·exact hsv.keep (fun b hb _=>hb) (fun b hb _=>hsb b hb) (fun i=>hcon _ (by simp [hs])) (fun i j1=>dh fun hh=>hs (by have:=hh.1; simp at this; exact this.1)) (dh fun hh=>htl hh.2.symm) (fun r1=>Nat.le_refl _) hfr
end
end
section
open Go Go.RowKit
theorem Lh {rows:List (List C)} {j q k:Nat} {f:C → C} (h:∀ r ∈ rows,r.length = k):∀ r ∈ rows.modify j (fun row=>row.modify q f),r.length = k:=fun row hrow=>by
 obtain ⟨i,hi,rfl⟩:=List.getElem_of_mem hrow;have hi':i < rows.length:=by simpa using hi
 have e1:(rows.modify j fun row=>row.modify q f)[i]? = if j = i then (rows[i]?).map (fun row=>row.modify q f) else rows[i]?:=fy _ _ _ _
 rw [List.getElem?_eq_getElem hi,List.getElem?_eq_getElem hi'] at e1;have hg:=h _ (List.getElem_mem hi');split at e1
 ·simp only [Option.map_some,Option.some.injEq] at e1;rw [e1]; simpa using hg
 ·simp only [Option.some.injEq] at e1;rw [e1]; exact hg
theorem SlOk.mod {w:World} {va:aj → Value} {p:aj} {t:TypeId} {k j q:Nat} {rows:List (List C)} {f:C → C} (h:SlOk w va p t k rows):SlOk w va p t k (rows.modify j fun row=>row.modify q f):=by
 obtain ⟨g1,g2,g3⟩:=h;refine ⟨g1,Lh g2,?_⟩
 rcases g3 with ⟨rfl,g3⟩ | ⟨b,o,cap,cur,g4,g5,g6,g7,g8,g9⟩
 ·exact .inl ⟨by simp,g3⟩
 ·refine .inr ⟨b,o,cap,cur,by rw [List.length_modify]; exact g4,g5,by rw [List.length_modify]; exact g6,g7,g8,fun j2 q2 c2 hc2=>?_⟩;rw [gj] at hc2
  by_cases hjq:j = j2 ∧ q = q2
  ·rw [if_pos hjq] at hc2
   cases hx:cg rows j2 q2 with
   | none=>rw [hx] at hc2; cases hc2
   | some c3=>exact g9 j2 q2 c3 hx
  ·rw [if_neg hjq] at hc2;exact g9 j2 q2 c2 hc2
theorem e7 {xs:List C} {y:C} {t p:aj} {c c0:C} (hl:look xs t = some c0) (hp:look (puts xs y t) p = some c) :
 (∃ z,p = t ++ z ∧ y.at z = some c) ∨ (¬ t <+: p ∧ ((∃ s r,t = p ++ s :: r ∧ ∃ c1,look xs p = some c1 ∧ c = C.put y (s :: r) c1) ∨ (look xs p = some c ∧ ¬ p <+: t))):=by
 rcases wt t p with ⟨r1,rfl⟩ | ⟨s,r1,he⟩ | ⟨h1,h2⟩
 ·rw [yq hl] at hp;exact .inl ⟨r1,rfl,hp⟩
 ·refine .inr ⟨fun hh=>?_,.inl ⟨s,r1,he,?_⟩⟩
  ·rw [he] at hh;have:=hh.length_le;simp at this;omega
  ·have hpn:p ≠ []:=eh hp;rw [he,wx hpn] at hp
   cases h1:look xs p with
   | none=>rw [h1] at hp; cases hp
   | some c1=>rw [h1] at hp; simp only [Option.map_some,Option.some.injEq] at hp; exact ⟨c1,rfl,hp.symm⟩
 ·rw [gk h1 h2] at hp;exact .inr ⟨h1,.inr ⟨hp,h2⟩⟩
theorem NodeOk.put {w:World} {S:Nat → Prop} {va:aj → Value} {p:aj} {y c:C} {s:Nat × Nat} {r:aj} (h:NodeOk w S va p c):NodeOk w S va p (C.put y (s :: r) c):=by
 cases c with
 | p v=>simpa only [C.put] using h
 | hole=>trivial
 | sl own t k rows =>
  cases own with
  | false=>simpa only [C.put] using h
  | true=>obtain ⟨j,q⟩:=s; rw [lw]; exact SlOk.mod h
theorem Ge {y c:C} {s:Nat × Nat} {r:aj} {t:TypeId} {k:Nat} {rows:List (List C)} (h:C.put y (s :: r) c = .sl true t k rows):∃ rows',c = .sl true t k rows' ∧ rows'.length = rows.length:=by
 have:c.hd = (C.sl true t k rows).hd:=by rw [← h,Lu]
 cases c with
 | p v=>simp [C.hd] at this
 | hole=>simp [C.hd] at this
 | sl own t2 k2 rows2 =>
  cases own with
  | false=>simp [C.hd] at this
  | true=>simp only [C.hd,Hd.own.injEq] at this; obtain ⟨rfl,rfl,h3⟩:=this; exact ⟨rows2,rfl,h3⟩
theorem NodeOk.reval {w:World} {S:Nat → Prop} {va va':aj → Value} {p p':aj} {c:C} (h:NodeOk w S va p c) (hv:∀ z,va' (p' ++ z) = va (p ++ z)):NodeOk w S va' p' c:=by
 have h0:va' p' = va p:=by have:=hv []; simpa using this
 cases c with
 | p v=>exact h0.trans h
 | hole=>trivial
 | sl own t k rows =>
  cases own with
  | false=>show RO _ _ _ _; rw [h0]; exact h
  | true =>
   obtain ⟨g1,g2,g3⟩:=h;refine ⟨g1,g2,?_⟩;rw [h0]
   rcases g3 with g3 | ⟨b,o,cap,cur,g4,g5,g6,g7,g8,g9⟩
   ·exact .inl g3
   ·exact .inr ⟨b,o,cap,cur,g4,g5,g6,g7,g8,fun j q c hc=>by rw [hv]; exact g9 j q c hc⟩
section
variable {w0:Base} {e:Env} {a:Act} {w:World} {val:Val} {S:Nat → Prop} {con:bh → Option Con}
def cz (con:bh → Option Con) (key:bh) (p:aj) (y:C):bh → Option Con:=fun k=>if k = key then (con k).map fun cn=>{ cn with xs:=puts cn.xs y p } else con k
theorem Np (e:Env) (r:Nat) (p:aj) (y:C):(e.put r p y).con = cz e.con (r,0) p y:=rfl
theorem MemOk.hole (h:MemOk w con val S) {key:bh} {cn:Con} {t:aj} {c0:C} (hc:con key = some cn) (hl:look cn.xs t = some c0) :
 MemOk w (cz con key t .hole) val S ∧ ∀ b k p,OwnB (cz con key t .hole) val b k p → OwnB con val b k p ∧ ¬ (k = key ∧ t <+: p):=by
 have hk:cz con key t .hole key = some { cn with xs:=puts cn.xs .hole t }:=by simp [cz,hc]
 have hn:∀ k,k ≠ key → cz con key t .hole k = con k:=fun k hk=>by simp [cz,hk]
 have htn:=eh hl
 have hholes:∀ (z:aj) (d:C),C.hole.at z = some d → z = [] ∧ d = .hole:=fun z d hd=>by
  cases z with
  | nil=>rw [da] at hd; cases hd; exact ⟨rfl,rfl⟩
  | cons s z=>simp [C.at] at hd
 have hown:∀ b k p,OwnB (cz con key t .hole) val b k p → OwnB con val b k p ∧ ¬ (k = key ∧ t <+: p):=fun b k p ho=>by
  by_cases hkk:k = key
  ·subst hkk
   rcases ho with ⟨rfl,⟨t',xs',h2⟩,h3⟩ | ⟨cn',t',k',rows',n',cap',h1,h2,h3⟩
   ·rw [hk] at h2;simp only [Option.some.injEq,Con.mk.injEq] at h2;refine ⟨.inl ⟨rfl,⟨t',cn.xs,?_⟩,h3⟩,fun hh=>htn (List.prefix_nil.1 hh.2)⟩;rw [hc]; obtain ⟨bx,xs⟩:=cn; cases h2.1; rfl
   ·rw [hk] at h1;cases h1
    rcases e7 hl h2 with ⟨z,rfl,hz⟩ | ⟨hnt,⟨s,r,he,c1,h4,h5⟩ | ⟨h4,-⟩⟩
    ·have:=(hholes z _ hz).2; cases this
    ·obtain ⟨rows2,rfl,-⟩:=Ge h5.symm;exact ⟨.inr ⟨cn,t',k',rows2,n',cap',hc,h4,h3⟩,fun hh=>hnt hh.2⟩
    ·exact ⟨.inr ⟨cn,t',k',rows',n',cap',hc,h4,h3⟩,fun hh=>hnt hh.2⟩
  ·exact ⟨ho.con (hn k hkk).symm rfl,fun hh=>hkk hh.1⟩
 refine ⟨⟨fun k cn' p c h1 h2=>?_,fun k t' xs' h1=>?_,fun b k p k' p' h1 h2=>h.inj b k p k' p' (hown _ _ _ h1).1 (hown _ _ _ h2).1,fun b hb=>⟨(h.sep b hb).1,fun k p h1=>(h.sep b hb).2 k p (hown _ _ _ h1).1⟩⟩,hown⟩
 ·by_cases hkk:k = key
  ·subst hkk;rw [hk] at h1;cases h1
   rcases e7 hl h2 with ⟨z,rfl,hz⟩ | ⟨hnt,⟨s,r,he,c1,h4,rfl⟩ | ⟨h4,-⟩⟩
   ·rw [(hholes z _ hz).2]; trivial
   ·exact (h.node k cn p c1 hc h4).put
   ·exact h.node k cn p c hc h4
  ·rw [hn k hkk] at h1;exact h.node k cn' p c h1 h2
 ·by_cases hkk:k = key
  ·subst hkk;rw [hk] at h1;simp only [Option.some.injEq,Con.mk.injEq] at h1;obtain ⟨b,cur,g1,g2,g3,g4⟩:=h.root k t' cn.xs (by rw [hc]; obtain ⟨bx,xs⟩:=cn; cases h1.1; rfl);rw [← h1.2];exact ⟨b,cur,g1,g2,by rw [dc]; exact g3,fun i hi=>g4 i (by rwa [dc] at hi)⟩
  ·rw [hn k hkk] at h1;exact h.root k t' xs' h1
def jl (con:bh → Option Con) (key:bh) (p:aj):Nat → bh → Option Con
 | 0=>con
 | n + 1=>cz (jl con key p n) key (a6 p n) .hole
theorem r6 {p:aj} (hp:p ≠ []) {i i':Nat} (h:a6 p i <+: a6 p i'):i = i':=by
 obtain ⟨p',⟨j,q⟩,rfl⟩:=yi hp;rw [c9,c9] at h;have:=h.eq_of_length (by simp);have:=List.append_cancel_left this;simp at this;exact this
theorem j5 {key:bh} {cn:Con} {p:aj} (hp:p ≠ []) (hc:con key = some cn):∀ (n:Nat),∃ cn',jl con key p n key = some cn' ∧ cn'.box = cn.box ∧ cn'.xs.length = cn.xs.length ∧ ∀ i,n ≤ i → look cn'.xs (a6 p i) = look cn.xs (a6 p i)
 | 0=>⟨cn,hc,rfl,rfl,fun _ _=>rfl⟩
 | n + 1=>by
  obtain ⟨cn',h1,h2,h3,h4⟩:=j5 hp hc n;refine ⟨{ cn' with xs:=puts cn'.xs .hole (a6 p n) },by simp [jl,cz,h1],h2,by simp only [dc]; exact h3,fun i hi=>?_⟩;rw [gk (fun hh=>by have:=r6 hp hh; omega) (fun hh=>by have:=r6 hp hh; omega)];exact h4 i (by omega)
theorem ke {key k:bh} {p:aj} (hk:k ≠ key):∀ (n:Nat),jl con key p n k = con k
 | 0=>rfl
 | n + 1=>by
  show cz _ _ _ _ k = _;unfold cz;rw [if_neg hk];exact ke hk n
theorem MemOk.holes (h:MemOk w con val S) {key:bh} {cn:Con} {p:aj} (hp:p ≠ []) (hc:con key = some cn):∀ (n:Nat),(∀ i,i < n → ∃ c,look cn.xs (a6 p i) = some c) →
 MemOk w (jl con key p n) val S ∧ ∀ b k q,OwnB (jl con key p n) val b k q → OwnB con val b k q ∧ ∀ i,i < n → ¬ (k = key ∧ a6 p i <+: q)
 | 0,_=>⟨h,fun _ _ _ ho=>⟨ho,fun _ hi=>absurd hi (Nat.not_lt_zero _)⟩⟩
 | n + 1,hl=>by
  obtain ⟨h1,h2⟩:=MemOk.holes h hp hc n fun i hi=>hl i (by omega);obtain ⟨cn',h3,-,-,h4⟩:=j5 hp hc n;obtain ⟨c,hcn⟩:=hl n (by omega);obtain ⟨h5,h6⟩:=h1.hole h3 ((h4 n (Nat.le_refl _)).trans hcn);refine ⟨h5,fun b k q ho=>?_⟩;obtain ⟨h7,h8⟩:=h6 b k q ho;obtain ⟨h9,h10⟩:=h2 b k q h7;refine ⟨h9,fun i hi=>?_⟩
  by_cases hin:i = n
  ·subst hin; exact h8
  ·exact h10 i (by omega)
def jk (con:bh → Option Con) (r:Nat) (p:aj) (d:Nat) (cs:List C):bh → Option Con:=fun key=>if key.1 = d then oneCon ⟨none,cs⟩ key.2 else jl con (r,0) p cs.length key
def dx (val:Val) (r:Nat) (p:aj) (d:Nat):Val:=fun key path=>if key = (d,0) then (match path with | (0,i) :: z=>val (r,0) (a6 p i ++ z) | _=>undef) else val key path
theorem MemOk.take (h:MemOk w con val S) {r d:Nat} {cn:Con} {p:aj} {cs:List C} (hp:p ≠ []) (hd:d ≠ r) (hc:con (r,0) = some cn) (hcs:∀ (i:Nat) (c:C),cs[i]? = some c → look cn.xs (a6 p i) = some c) :
 MemOk w (jk con r p d cs) (dx val r p d) S ∧ ∀ b k q,OwnB (jk con r p d cs) (dx val r p d) b k q → ∃ k' q',OwnB con val b k' q':=by
 obtain ⟨hm,ho⟩:=h.holes hp hc cs.length fun i hi=>⟨cs[i],hcs i _ (by simp [hi])⟩
 have hcd:∀ key:bh,key.1 = d → ∀ cn',jk con r p d cs key = some cn' → key = (d,0) ∧ cn' = ⟨none,cs⟩:=fun key hk cn' he=>by
  obtain ⟨k1,k2⟩:=key;simp only at hk;subst hk;simp only [jk,if_pos,oneCon] at he
  by_cases h2:k2 = 0
  ·subst h2; simp at he; exact ⟨rfl,he.symm⟩
  ·rw [if_neg h2] at he; cases he
 have hco:∀ key:bh,key.1 ≠ d → jk con r p d cs key = jl con (r,0) p cs.length key:=fun key hk=>by simp only [jk,if_neg hk]
 have hvo:∀ key:bh,key.1 ≠ d → dx val r p d key = val key:=fun key hk=>by
  funext path;unfold dx;rw [if_neg (fun hh=>hk (by rw [hh]))]
 have hlk:∀ q c,look cs q = some c → ∃ i z,q = (0,i) :: z ∧ look cn.xs (a6 p i ++ z) = some c:=fun q c hq=>by
  cases q with
  | nil=>cases hq
  | cons s z =>
   obtain ⟨j,i⟩:=s
   cases j with
   | succ j=>cases hq
   | zero =>
    simp only [look] at hq
    cases hi:cs[i]? with
    | none=>rw [hi] at hq; cases hq
    | some c1 =>
     rw [hi] at hq;simp only [Option.bind_some] at hq;have h1:=hcs i c1 hi;exact ⟨i,z,rfl,by rw [rl (eh h1),h1]; exact hq⟩
 have hval:∀ i z,dx val r p d (d,0) ((0,i) :: z) = val (r,0) (a6 p i ++ z):=fun i z=>by simp [dx]
 have hown:∀ b k q,OwnB (jk con r p d cs) (dx val r p d) b k q → (k = (d,0) ∧ ∃ i z,q = (0,i) :: z ∧ i < cs.length ∧ OwnB con val b (r,0) (a6 p i ++ z)) ∨ (k.1 ≠ d ∧ OwnB con val b k q ∧ ∀ i,i < cs.length → ¬ (k = (r,0) ∧ a6 p i <+: q)):=fun b k q h1=>by
  by_cases hk:k.1 = d
  ·rcases h1 with ⟨rfl,⟨t',xs',h2⟩,h3⟩ | ⟨cn',t',k',rows',n',cap',h1,h2,h3⟩
   ·have:=(hcd k hk _ h2).2; cases this
   ·obtain ⟨rfl,rfl⟩:=hcd k hk _ h1;obtain ⟨i,z,rfl,h4⟩:=hlk q _ h2;rw [hval] at h3
    have hi:i < cs.length:=by
     simp only [look] at h2
     rcases Nat.lt_or_ge i cs.length with h5 | h5
     ·exact h5
     ·rw [List.getElem?_eq_none h5] at h2; cases h2
    exact .inl ⟨rfl,i,z,rfl,hi,.inr ⟨cn,t',k',rows',n',cap',hc,h4,h3⟩⟩
  ·exact .inr ⟨hk,ho b k q (h1.con (hco k hk).symm (hvo k hk).symm)⟩
 refine ⟨⟨fun key cn' q c h1 h2=>?_,fun key t' xs' h1=>?_,fun b k q k' q' h1 h2=>?_,fun b hb=>⟨(h.sep b hb).1,fun k q h1=>?_⟩⟩,fun b k q h1=>?_⟩
 ·by_cases hk:key.1 = d
  ·obtain ⟨rfl,rfl⟩:=hcd key hk _ h1;obtain ⟨i,z,rfl,h4⟩:=hlk q c h2;exact (h.node (r,0) cn _ c hc h4).reval fun z'=>by rw [List.cons_append,hval,List.append_assoc]
  ·rw [hco key hk] at h1;rw [hvo key hk];exact hm.node key cn' q c h1 h2
 ·by_cases hk:key.1 = d
  ·have:=(hcd key hk _ h1).2; cases this
  ·rw [hco key hk] at h1;rw [hvo key hk];exact hm.root key t' xs' h1
 ·rcases hown b k q h1 with ⟨rfl,i,z,rfl,hi,h3⟩ | ⟨hk,h3,h4⟩ <;> rcases hown b k' q' h2 with ⟨rfl,i',z',rfl,hi',h5⟩ | ⟨hk',h5,h6⟩
  ·obtain ⟨-,he⟩:=h.inj b _ _ _ _ h3 h5
   have hii:i = i':=by
    obtain ⟨p',⟨j,q⟩,rfl⟩:=yi hp;rw [c9,c9,List.append_assoc,List.append_assoc] at he;have:=List.append_cancel_left he;simp at this;exact this.1
   subst hii;exact ⟨rfl,by rw [List.append_cancel_left he]⟩
  ·obtain ⟨e1,e2⟩:=h.inj b _ _ _ _ h3 h5;exact absurd ⟨e1.symm,by rw [← e2]; exact List.prefix_append _ _⟩ (h6 i hi)
  ·obtain ⟨e1,e2⟩:=h.inj b _ _ _ _ h3 h5;exact absurd ⟨e1,by rw [e2]; exact List.prefix_append _ _⟩ (h4 i' hi')
  ·exact h.inj b k q k' q' h3 h5
 ·rcases hown b k q h1 with ⟨rfl,i,z,rfl,hi,h3⟩ | ⟨hk,h3,h4⟩
  ·exact (h.sep b hb).2 _ _ h3
  ·exact (h.sep b hb).2 _ _ h3
 ·rcases hown b k q h1 with ⟨rfl,i,z,rfl,hi,h3⟩ | ⟨hk,h3,h4⟩
  ·exact ⟨_,_,h3⟩
  ·exact ⟨_,_,h3⟩
def Env.holes (e:Env) (r:Nat) (p:aj):Nat → Env
 | 0=>e
 | n + 1=>(e.holes r p n).put r (a6 p n) .hole
theorem oh (e:Env) (r:Nat) (p:aj):∀ n,(e.holes r p n).con = jl e.con (r,0) p n
 | 0=>rfl
 | n + 1=>by show cz _ _ _ _ = _; rw [oh e r p n]; rfl
theorem ms (e:Env) (r:Nat) (p:aj):∀ n,(e.holes r p n).n = e.n
 | 0=>rfl
 | n + 1=>ms e r p n
theorem Oh (e:Env) (r:Nat) (p:aj):∀ n,(e.holes r p n).s = e.s
 | 0=>rfl
 | n + 1=>Oh e r p n
theorem og (e:Env) (r:Nat) (p:aj):∀ n,(e.holes r p n).gen = e.gen
 | 0=>rfl
 | n + 1=>og e r p n
theorem rq (e:Env) (r:Nat) (p:aj) {r1 g:Nat} {q:aj}:∀ n,(e.holes r p n).fresh r1 g q → e.fresh r1 g q
 | 0,h=>h
 | n + 1,h=>rq e r p n (by
  obtain ⟨h1,h2⟩:=h;refine ⟨h1,fun d hd=>h2 d ?_⟩;show d ∈ (if r1 = r then _ else _)
  by_cases hr:r1 = r
  ·subst hr; rw [if_pos rfl]; exact List.mem_cons_of_mem _ hd
  ·rw [if_neg hr]; exact hd)
theorem StV.take (h:StV w0 e a w val S) {r g d:Nat} {cn:Con} {p:aj} {cs:List C} {ag:Bool} {v:Value} (hp:p ≠ []) (hdr:d ≠ r) (hd:d < e.n) (hc:e.con (r,0) = some cn) (hcs:∀ (i:Nat) (c:C),cs[i]? = some c → look cn.xs (a6 p i) = some c)
 (hf:∀ i,i < cs.length → e.fresh r g (a6 p i)) (hv:∀ s,SV e w val S s (.ref r g p ag cs.length) v) (hn:ag = false → cs.length = 1) :
 StV w0 ((e.holes r p cs.length).set d (.own ag cs.length) (oneCon ⟨none,cs⟩)) (a.put (some d) v) w (dx val r p d) S:=by
 obtain ⟨hm,ho⟩:=h.mem.take hp hdr hc hcs
 have hcon:((e.holes r p cs.length).set d (.own ag cs.length) (oneCon ⟨none,cs⟩)).con = jk e.con r p d cs:=by
  funext key;show (if key.1 = d then _ else (e.holes r p cs.length).con key) = _;rw [oh];rfl
 have hvo:∀ key:bh,key.1 ≠ d → dx val r p d key = val key:=fun key hk=>by
  funext path;unfold dx;rw [if_neg (fun hh=>hk (by rw [hh]))]
 refine ⟨?_,h.defers,by rw [hcon]; exact hm,fun s=>?_,h.frm,fun b k q hb=>?_,fun s hs=>?_,h.sS⟩
 ·simp [Act.put,Env.set,h.sz,ms]
 ·rw [o8 (by rw [h.sz]; exact hd)]
  by_cases hs:s = d
  ·subst hs;rw [if_pos rfl];have e1:((e.holes r p cs.length).set s (.own ag cs.length) (oneCon ⟨none,cs⟩)).s s = .own ag cs.length:=by simp [Env.set]
   rw [e1];have h1:=(hv s).2 hf;show TVok _ _ _ _ _ _;have e2:((e.holes r p cs.length).set s (.own ag cs.length) (oneCon ⟨none,cs⟩)).con (s,0) = some ⟨none,cs⟩:=by simp [Env.set,oneCon]
   rw [e2];have e3:∀ i,dx val r p s (s,0) [(0,i)] = val (r,0) (a6 p i):=fun i=>by simp [dx]
   cases ag with
   | false =>
    obtain ⟨x,hx⟩:=List.length_eq_one_iff.1 (hn rfl);exact ⟨⟨x,by rw [hx]⟩,hn rfl,by rw [e3]; exact h1.2⟩
   | true =>
    obtain ⟨vs,h2,h3,h4⟩:=h1;exact ⟨cs,vs,rfl,rfl,h2,h3,fun i hi=>by rw [e3]; exact h4 i hi⟩
  ·rw [if_neg hs];have e1:((e.holes r p cs.length).set d (.own ag cs.length) (oneCon ⟨none,cs⟩)).s s = e.s s:=by simp [Env.set,hs,Oh]
   rw [e1];have hsv:=h.slot s
   by_cases hsr:s = r
   ·subst hsr;obtain ⟨cn',h1,h2,h3,-⟩:=j5 hp hc cs.length;have e4:((e.holes s p cs.length).set d (.own ag cs.length) (oneCon ⟨none,cs⟩)).con (s,0) = some cn':=by rw [hcon]; simp only [jk,if_neg hs]; exact h1
    have e5:∀ i,((e.holes s p cs.length).set d (.own ag cs.length) (oneCon ⟨none,cs⟩)).con (s,i + 1) = e.con (s,i + 1):=fun i=>by rw [hcon]; simp only [jk,if_neg hs]; exact ke (by simp) _
    have e6:∀ i,dx val s p d (s,i) = val (s,i):=fun i=>hvo (s,i) hs
    cases hav:e.s s with
    | own ag' n' =>
     rw [hav] at hsv;show TVok _ _ _ _ _ _;rw [e4,e6]
     cases ag' with
     | false =>
      obtain ⟨⟨x,g1⟩,g2,g3⟩:=hsv;rw [hc] at g1;cases g1;obtain ⟨box',xs'⟩:=cn';obtain ⟨x',hx'⟩:=List.length_eq_one_iff.1 (by simpa using h3);simp only at h2 hx';exact ⟨⟨x',by rw [h2,hx']⟩,g2,g3⟩
     | true =>
      obtain ⟨xs,vs,g1,g2,g3,g4,g5⟩:=hsv;rw [hc] at g1;cases g1;obtain ⟨box',xs'⟩:=cn';simp only at h2 h3;exact ⟨xs',vs,by rw [h2],by omega,g3,g4,g5⟩
    | box =>
     rw [hav] at hsv;obtain ⟨⟨t',xs',g1⟩,g2⟩:=hsv;rw [hc] at g1;cases g1;obtain ⟨box',xs2⟩:=cn';simp only at h2;exact ⟨⟨t',xs2,by rw [e4,h2]⟩,by rw [e6]; exact g2⟩
    | _ =>
     rw [hav] at hsv;refine SV.keep (e:={ e with con:=fun key=>if key = (s,0) then ((e.holes s p cs.length).set d (.own ag cs.length) (oneCon ⟨none,cs⟩)).con key else e.con key }) (val:=val) (S:=S) (w:=w) ?_ (fun _ h _=>h) (fun _ _ _=>rfl) (fun i=>?_) (fun i j=>by rw [e6]) (by rw [e6]) ?_ ?_
     ·first
       | exact hsv
       | (obtain ⟨vs,k1,k2,k3⟩:=hsv
          refine ⟨vs,k1,k2,fun i t hi=>?_⟩;obtain ⟨u,k4,k5⟩:=k3 i t hi
          exact ⟨u,k4,by simpa using k5⟩)
     ·cases i with
      | zero=>simp
      | succ i=>rw [e5]; simp
     ·intro r1;have:=im (e:=e.holes s p cs.length) d (.own ag cs.length) (oneCon ⟨none,cs⟩) r1;rwa [og] at this
     ·intro r1 g1 q hg hfq;obtain ⟨k1,k2⟩:=e8 (e:=e.holes s p cs.length) (by rw [og]; exact hg) hfq;exact ⟨rq e s p _ k2,by rw [hvo (r1,0) k1]⟩
   ·refine hsv.keep (fun _ h _=>h) (fun _ _ _=>rfl) (fun i=>?_) (fun i j=>by rw [hvo (s,i) hs]) (by rw [hvo (s,0) hs]) (fun r1=>?_) (fun r1 g1 q hg hfq=>?_)
    ·rw [hcon]; simp only [jk,if_neg hs]; exact ke (by simp [hsr]) _
    ·have:=im (e:=e.holes r p cs.length) d (.own ag cs.length) (oneCon ⟨none,cs⟩) r1;rwa [og] at this
    ·obtain ⟨k1,k2⟩:=e8 (e:=e.holes r p cs.length) (by rw [og]; exact hg) hfq;exact ⟨rq e r p _ k2,by rw [hvo (r1,0) k1]⟩
 ·rw [hcon] at hb;obtain ⟨k',q',h1⟩:=ho b k q hb;exact h.low b k' q' h1
 ·have hs:e.n ≤ s:=by simpa [Env.set,ms] using hs
  rw [hvo (s,0) (fun he=>by have he:s = d:=he; omega)];exact h.rts s hs
end
end
section
open Go Go.RowKit
theorem NodeOk.reval1 {w:World} {S:Nat → Prop} {va va':aj → Value} {p p':aj} {c:C} (h:NodeOk w S va p c) (h0:va' p' = va p) (hv:∀ s,va' (p' ++ [s]) = va (p ++ [s])):NodeOk w S va' p' c:=by
 cases c with
 | p v=>exact h0.trans h
 | hole=>trivial
 | sl own t k rows =>
  cases own with
  | false=>show RO _ _ _ _; rw [h0]; exact h
  | true =>
   obtain ⟨g1,g2,g3⟩:=h;refine ⟨g1,g2,?_⟩;rw [h0]
   rcases g3 with g3 | ⟨b,o,cap,cur,g4,g5,g6,g7,g8,g9⟩
   ·exact .inl g3
   ·exact .inr ⟨b,o,cap,cur,g4,g5,g6,g7,g8,fun j q c hc=>by rw [hv]; exact g9 j q c hc⟩
def et (val:Val) (s:Nat) (p1:aj) (r:Nat) (p2:aj):Val:=fun key q=>if key = (r,0) ∧ p2 <+: q then val (s,0) (p1 ++ q.drop p2.length) else val key q
section
variable {w0:Base} {e:Env} {a:Act} {w:World} {val:Val} {S:Nat → Prop} {con:bh → Option Con}
theorem MemOk.move (h:MemOk w con val S) {s r:Nat} {cn1 cn2:Con} {p1 p2:aj} {c:C} (hsr:s ≠ r) (h1:con (s,0) = some cn1) (h2:con (r,0) = some cn2) (hl1:look cn1.xs p1 = some c) (hl2:look cn2.xs p2 = some .hole) (hv:val (r,0) p2 = val (s,0) p1) :
 MemOk w (cz (cz con (s,0) p1 .hole) (r,0) p2 c) (et val s p1 r p2) S ∧ ∀ b k q,OwnB (cz (cz con (s,0) p1 .hole) (r,0) p2 c) (et val s p1 r p2) b k q → ∃ k' q',OwnB con val b k' q':=by
 obtain ⟨hm,ho⟩:=h.hole h1 hl1;have hkr:(cz con (s,0) p1 .hole) (r,0) = some cn2:=by simp [cz,Ne.symm hsr,h2]
 have hk:cz (cz con (s,0) p1 .hole) (r,0) p2 c (r,0) = some { cn2 with xs:=puts cn2.xs c p2 }:=by
  show (if (r,0) = (r,0) then _ else _) = _;rw [if_pos rfl,hkr]; rfl
 have hn:∀ k,k ≠ (r,0) → cz (cz con (s,0) p1 .hole) (r,0) p2 c k = cz con (s,0) p1 .hole k:=fun k hk=>by
  show (if k = (r,0) then _ else _) = _;rw [if_neg hk]
 have hpn:=eh hl2;have vb:∀ z,et val s p1 r p2 (r,0) (p2 ++ z) = val (s,0) (p1 ++ z):=fun z=>by simp [et]
 have vn:∀ k q,¬ (k = (r,0) ∧ p2 <+: q) → et val s p1 r p2 k q = val k q:=fun k q hq=>by simp only [et,if_neg hq]
 have vr:∀ q,¬ p2 <+: q → ∀ st,et val s p1 r p2 (r,0) (q ++ [st]) = val (r,0) (q ++ [st]):=fun q hq st=>by
  by_cases hh:p2 <+: q ++ [st]
  ·have h3:p2 = q ++ [st]:=by
    obtain ⟨z,hz⟩:=hh
    rcases List.eq_nil_or_concat z with rfl | ⟨z',x,rfl⟩
    ·rw [List.append_nil] at hz; exact hz
    ·rw [List.concat_eq_append,← List.append_assoc] at hz;exact absurd ⟨z',List.append_inj_left' hz rfl⟩ hq
   rw [← h3];have:=vb [];rw [List.append_nil,List.append_nil] at this;rw [this,hv]
  ·exact vn _ _ fun h4=>hh h4.2
 have hcat:∀ z d,c.at z = some d → look cn1.xs (p1 ++ z) = some d:=fun z d hd=>by rw [rl (eh hl1),hl1]; exact hd
 have hown:∀ b k q,OwnB (cz (cz con (s,0) p1 .hole) (r,0) p2 c) (et val s p1 r p2) b k q → (k = (r,0) ∧ ∃ z,q = p2 ++ z ∧ OwnB con val b (s,0) (p1 ++ z)) ∨ (¬ (k = (r,0) ∧ p2 <+: q) ∧ OwnB con val b k q ∧ ¬ (k = (s,0) ∧ p1 <+: q)):=fun b k q hb=>by
  by_cases hkk:k = (r,0)
  ·subst hkk
   rcases hb with ⟨rfl,⟨t',xs',h3⟩,h4⟩ | ⟨cn',t',k',rows',n',cap',h3,h4,h5⟩
   ·rw [hk] at h3;simp only [Option.some.injEq,Con.mk.injEq] at h3;have hnp:¬ p2 <+: ([]:aj):=fun hh=>hpn (List.prefix_nil.1 hh);refine .inr ⟨fun hh=>hnp hh.2,?_⟩;exact ho b (r,0) [] (.inl ⟨rfl,⟨t',cn2.xs,by rw [hkr]; obtain ⟨bx,xs⟩:=cn2; cases h3.1; rfl⟩,by rw [← vn (r,0) [] fun hh=>hnp hh.2]; exact h4⟩)
   ·rw [hk] at h3;cases h3
    rcases e7 hl2 h4 with ⟨z,rfl,hz⟩ | ⟨hnt,h6⟩
    ·rw [vb] at h5;exact .inl ⟨rfl,z,rfl,.inr ⟨cn1,t',k',rows',n',cap',h1,hcat z _ hz,h5⟩⟩
    ·rw [vn _ _ fun hh=>hnt hh.2] at h5
     rcases h6 with ⟨s',r',he,c1,h6,h7⟩ | ⟨h6,-⟩
     ·obtain ⟨rows2,rfl,-⟩:=Ge h7.symm;exact .inr ⟨fun hh=>hnt hh.2,ho b (r,0) q (.inr ⟨cn2,t',k',rows2,n',cap',hkr,h6,h5⟩)⟩
     ·exact .inr ⟨fun hh=>hnt hh.2,ho b (r,0) q (.inr ⟨cn2,t',k',rows',n',cap',hkr,h6,h5⟩)⟩
  ·have hv1:et val s p1 r p2 k = val k:=funext fun q=>vn k q fun hh=>hkk hh.1;exact .inr ⟨fun hh=>hkk hh.1,ho b k q (hb.con (hn k hkk).symm hv1.symm)⟩
 refine ⟨⟨fun k cn' q c' h3 h4=>?_,fun k t' xs' h3=>?_,fun b k q k' q' h3 h4=>?_,fun b hb=>⟨(h.sep b hb).1,fun k q h3=>?_⟩⟩,fun b k q h3=>?_⟩
 ·by_cases hkk:k = (r,0)
  ·subst hkk;rw [hk] at h3;cases h3
   rcases e7 hl2 h4 with ⟨z,rfl,hz⟩ | ⟨hnt,⟨s',r',he,c1,h6,rfl⟩ | ⟨h6,-⟩⟩
   ·exact (h.node (s,0) cn1 (p1 ++ z) c' h1 (hcat z _ hz)).reval1 (vb z) fun st=>by rw [List.append_assoc,vb,List.append_assoc]
   ·exact ((hm.node (r,0) cn2 q c1 hkr h6).put).reval1 (vn _ _ fun hh=>hnt hh.2) (vr q hnt)
   ·exact (hm.node (r,0) cn2 q c' hkr h6).reval1 (vn _ _ fun hh=>hnt hh.2) (vr q hnt)
  ·rw [hn k hkk] at h3;have hv1:et val s p1 r p2 k = val k:=funext fun q=>vn k q fun hh=>hkk hh.1;rw [hv1];exact hm.node k cn' q c' h3 h4
 ·by_cases hkk:k = (r,0)
  ·subst hkk;rw [hk] at h3;simp only [Option.some.injEq,Con.mk.injEq] at h3;obtain ⟨b,cur,g1,g2,g3,g4⟩:=hm.root (r,0) t' cn2.xs (by rw [hkr]; obtain ⟨bx,xs⟩:=cn2; cases h3.1; rfl);have hnp:¬ p2 <+: ([]:aj):=fun hh=>hpn (List.prefix_nil.1 hh);rw [← h3.2];refine ⟨b,cur,by rw [vn _ _ fun hh=>hnp hh.2]; exact g1,g2,by rw [dc]; exact g3,fun i hi=>?_⟩;rw [dc] at hi;have:=vr [] hnp (0,i);rw [List.nil_append] at this;rw [this];exact g4 i hi
  ·rw [hn k hkk] at h3;have hv1:et val s p1 r p2 k = val k:=funext fun q=>vn k q fun hh=>hkk hh.1;rw [hv1];exact hm.root k t' xs' h3
 ·rcases hown b k q h3 with ⟨rfl,z,rfl,h5⟩ | ⟨h5,h6,h7⟩ <;> rcases hown b k' q' h4 with ⟨rfl,z',rfl,h8⟩ | ⟨h8,h9,h10⟩
  ·obtain ⟨-,he⟩:=h.inj b _ _ _ _ h5 h8;exact ⟨rfl,by rw [List.append_cancel_left he]⟩
  ·obtain ⟨e1,e2⟩:=h.inj b _ _ _ _ h5 h9;exact absurd ⟨e1.symm,by rw [← e2]; exact List.prefix_append _ _⟩ h10
  ·obtain ⟨e1,e2⟩:=h.inj b _ _ _ _ h6 h8;exact absurd ⟨e1,by rw [e2]; exact List.prefix_append _ _⟩ h7
  ·exact h.inj b k q k' q' h6 h9
 ·rcases hown b k q h3 with ⟨rfl,z,rfl,h5⟩ | ⟨h5,h6,h7⟩
  ·exact (h.sep b hb).2 _ _ h5
  ·exact (h.sep b hb).2 _ _ h6
 ·rcases hown b k q h3 with ⟨rfl,z,rfl,h5⟩ | ⟨h5,h6,h7⟩
  ·exact ⟨_,_,h5⟩
  ·exact ⟨_,_,h6⟩
theorem SV.put {e e':Env} {w:World} {val val':Val} {S:Nat → Prop} {s:Nat} {av:AV} {v:Value} (h:SV e w val S s av v)
 (hc0:∀ cn,e.con (s,0) = some cn → ∃ cn',e'.con (s,0) = some cn' ∧ cn'.box = cn.box ∧ cn'.xs.length = cn.xs.length) (hc:∀ i,e'.con (s,i + 1) = e.con (s,i + 1))
 (hv:∀ i j,val' (s,i) [(0,j)] = val (s,i) [(0,j)]) (hv0:val' (s,0) [] = val (s,0) [])
 (hgen:e'.gen = e.gen) (hfr:∀ r g p,e'.fresh r g p → e.fresh r g p ∧ val' (r,0) p = val (r,0) p):SV e' w val' S s av v:=by
 cases av with
 | own ag n =>
  show TVok _ _ _ _ _ _
  cases ag with
  | false =>
   obtain ⟨⟨x,g1⟩,g2,g3⟩:=h;obtain ⟨⟨box',xs'⟩,h1,h2,h3⟩:=hc0 _ g1;obtain ⟨x',hx'⟩:=List.length_eq_one_iff.1 (by simpa using h3);simp only at h2 hx';exact ⟨⟨x',by rw [h1,h2,hx']⟩,g2,by rw [hv]; exact g3⟩
  | true =>
   obtain ⟨xs,vs,g1,g2,g3,g4,g5⟩:=h;obtain ⟨⟨box',xs'⟩,h1,h2,h3⟩:=hc0 _ g1;simp only at h2 h3;exact ⟨xs',vs,by rw [h1,h2],by omega,g3,g4,fun i hi=>by rw [hv]; exact g5 i hi⟩
 | box =>
  obtain ⟨⟨t',xs',g1⟩,g2⟩:=h;obtain ⟨⟨box',xs2⟩,h1,h2,h3⟩:=hc0 _ g1;simp only at h2;exact ⟨⟨t',xs2,by rw [h1,h2]⟩,by rw [hv0]; exact g2⟩
 | dead=>trivial
 | c x=>exact h
 | agg xs=>exact h
 | rp xs=>exact h
 | ref r g p ag n =>
  obtain ⟨h1,h2⟩:=h;refine ⟨by rw [hgen]; exact h1,fun hf=>?_⟩;have h3:=h2 fun i hi=>(hfr r g _ (hf i hi)).1
  cases ag with
  | false =>
   obtain ⟨rfl,h3⟩:=h3;exact ⟨rfl,by rw [h3]; exact ((hfr r g p (hf 0 (by omega))).2).symm⟩
  | true =>
   obtain ⟨vs,h4,h5,h6⟩:=h3;exact ⟨vs,h4,h5,fun i hi=>by rw [(hfr r g _ (hf i hi)).2]; exact h6 i hi⟩
 | ptr r g p k =>
  obtain ⟨h1,h2⟩:=h;refine ⟨by rw [hgen]; exact h1,fun hf=>?_⟩;obtain ⟨h3,h4⟩:=hfr r g p.dropLast hf;obtain ⟨p',j,q,b,o,rfl,h5,h6⟩:=h2 h3;refine ⟨p',j,q,b,o,rfl,h5,?_⟩;rw [List.dropLast_concat] at h4
  rcases h6 with ⟨rfl,h6,h8,h7⟩ | ⟨hne,n,cap,h6⟩
  ·exact .inl ⟨rfl,h6,h8,by rw [h4]; exact h7⟩
  ·exact .inr ⟨hne,n,cap,by rw [h4]; exact h6⟩
 | tup ts =>
  obtain ⟨vs,h1,h2,h3⟩:=h;refine ⟨vs,h1,h2,fun i t hi=>?_⟩;obtain ⟨u,h4,h5⟩:=h3 i t hi;refine ⟨u,h4,?_⟩;rw [hc];exact h5.con fun j=>hv (i + 1) j
 | fn g css=>exact h
 | clo g rs=>exact CLok.keep h (fun r=>by rw [hgen]; exact Nat.le_refl _) fun r g' _ hf=>hfr r g' [] hf
theorem sh (e:Env) (r:Nat) (p:aj) (y:C) {r1 g:Nat} {q:aj} (h:(e.put r p y).fresh r1 g q):e.fresh r1 g q ∧ (r1 = r → ¬ p <+: q):=by
 obtain ⟨h1,h2⟩:=h;simp only [Env.put] at h1 h2
 by_cases hr:r1 = r
 ·subst hr;rw [if_pos rfl] at h2;exact ⟨⟨h1,fun d hd=>h2 d (List.mem_cons_of_mem _ hd)⟩,fun _=>h2 _ (List.mem_cons_self ..)⟩
 ·rw [if_neg hr] at h2;exact ⟨⟨h1,h2⟩,fun hh=>absurd hh hr⟩
theorem ml (e:Env) (r:Nat) (p:aj) (y:C) {key:bh} {cn:Con} (h:e.con key = some cn):∃ cn',(e.put r p y).con key = some cn' ∧ cn'.box = cn.box ∧ cn'.xs.length = cn.xs.length:=by
 by_cases hk:key = (r,0)
 ·subst hk;exact ⟨{ cn with xs:=puts cn.xs y p },by simp [Env.put,h],rfl,by simp [dc]⟩
 ·exact ⟨cn,by simp [Env.put,hk,h],rfl,rfl⟩
theorem StV.graft (h:StV w0 e a w val S) {s r:Nat} {cn1 cn2:Con} {p1 p2:aj} {c:C} (hsr:s ≠ r) (h1:e.con (s,0) = some cn1) (h2:e.con (r,0) = some cn2) (hl1:look cn1.xs p1 = some c) (hl2:look cn2.xs p2 = some .hole) (hv:val (r,0) p2 = val (s,0) p1) :
 StV w0 ((e.put s p1 .hole).put r p2 c) a w (et val s p1 r p2) S:=by
 obtain ⟨hm,ho⟩:=h.mem.move hsr h1 h2 hl1 hl2 hv;have hpn:=eh hl2;have hcon:((e.put s p1 .hole).put r p2 c).con = cz (cz e.con (s,0) p1 .hole) (r,0) p2 c:=rfl;have vn:∀ k q,¬ (k = (r,0) ∧ p2 <+: q) → et val s p1 r p2 k q = val k q:=fun k q hq=>by simp only [et,if_neg hq]
 have v2:et val s p1 r p2 (r,0) p2 = val (r,0) p2:=by simp [et,hv]
 refine ⟨h.sz,h.defers,by rw [hcon]; exact hm,fun x=>?_,h.frm,fun b k q hb=>?_,fun x hx=>(vn _ _ fun hh=>hpn (List.prefix_nil.1 hh.2)).trans (h.rts x hx),h.sS⟩
 ·refine (h.slot x).put (fun cn hcn=>?_) (fun i=>?_) (fun i j=>?_) (vn _ _ fun hh=>hpn (List.prefix_nil.1 hh.2)) rfl (fun r1 g p hf=>?_)
  ·obtain ⟨cn',g1,g2,g3⟩:=ml e s p1 .hole hcn;obtain ⟨cn3,g4,g5,g6⟩:=ml (e.put s p1 .hole) r p2 c g1;exact ⟨cn3,g4,g5.trans g2,g6.trans g3⟩
  ·simp [Env.put]
  ·by_cases hh:(x,i) = (r,0) ∧ p2 <+: [(0,j)]
   ·have h5:p2 = [(0,j)]:=by
     obtain ⟨z,hz⟩:=hh.2
     cases p2 with
     | nil=>exact absurd rfl hpn
     | cons y p2=>simp at hz; obtain ⟨rfl,rfl,rfl⟩:=hz; rfl
    rw [hh.1,← h5,v2]
   ·exact vn _ _ hh
  ·obtain ⟨g1,g2⟩:=sh _ _ _ _ hf;obtain ⟨g3,g4⟩:=sh _ _ _ _ g1;exact ⟨g3,vn _ _ fun hh=>g2 (by simpa using hh.1) hh.2⟩
 ·rw [hcon] at hb;obtain ⟨k',q',h3⟩:=ho b k q hb;exact h.low b k' q' h3
end
end
end Go.Proofs.YtfknckinfcicbaaGreat

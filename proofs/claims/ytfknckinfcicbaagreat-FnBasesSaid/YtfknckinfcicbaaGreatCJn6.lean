/- Parts of the proof. -/
import Derived.Test.YtfknckinfcicbaaGreatCDx
import Derived.Maps.AppendAt
import Derived.Laws.OwnMore
set_option linter.unusedSimpArgs false
set_option linter.unusedVariables false
namespace Go.Proofs.YtfknckinfcicbaaGreat
section
open Go Go.RowKit
def OwnO (w:World) (e:TypeId) (size:Nat) (v:Value) (n:Nat) (xs:List Value):Prop :=
 xs.length = n * size ∧ ((v = .slice none 0 0 ∧ n = 0) ∨
  ∃ g o cap cur,v = .slice (some ⟨g,o,none⟩) n cap ∧ w.heap[g]? = some (.cells cur e (0,0)) ∧ n ≤ cap ∧ cap ≤ maxLen ∧ o + cap * size ≤ cur.size ∧ ∀ i u,xs[i]? = some u → cur[o + i]? = some u)
theorem OwnO.of_row {w:World} {B:Nat} {e:TypeId} {size:Nat} {v:Value} {n:Nat} {xs:List Value} (h:w.ownsRow B e size v n xs):OwnO w e size v n xs:=by
 refine ⟨h.1,h.2.imp id ?_⟩;rintro ⟨g,cap,cur,h1,-,h2,h3,h4,h5,h6⟩;refine ⟨g,0,cap,cur,h1,h2,h3,h4,by omega,fun i u hi=>?_⟩;rw [← h6,List.getElem?_take] at hi;rw [Nat.zero_add];split at hi
 ·rwa [Array.getElem?_toList] at hi
 ·cases hi
section
variable {P:Program} (w:World)
theorem x8 (t ty e:TypeId) (i:TypeInfo) (ht:P.underlying t = some (.slice e)) (hi:P.info? e = some i) (g o n cap:Nat) (cur:Array Value) (hg:w.heap[g]? = some (.cells cur e (0,0)))
 (a:Addr) (m c:Nat) (news:List Value) (hl:news.length = m * i.size) (hnews:∀ j u,news[j]? = some u → w.cell? (a.add j) = some u) (h1:∀ u ∈ news,u.oneCell' = true)
 (hroom:n + m ≤ cap) (hfit:o + n * i.size + news.length ≤ cur.size) :
 (Builtin.append_ #[t,t] ty #[.slice (some ⟨g,o,none⟩) n cap,.slice (some a) m c]).run P w =
   .ok (.slice (some ⟨g,o,none⟩) (n + m) cap) (w.setRow g (cur.toList.take (o + n * i.size) ++ news ++ cur.toList.drop (o + n * i.size + news.length)).toArray):=by
 have e1:=run_firstCells_some (P:=P) w i.size m a m c news hl hnews;have e2:=run_storeCells_at P g (o + n * i.size) e news 0 cur w hg (by simpa using hfit) h1;simp only [Nat.add_zero] at e2;simp [Builtin.append_,run_underlying ht,sizeOf,typeInfo,hi,Builtin.lenOf,hroom,e1,Addr.add_lit,e2]
theorem z7 (t ty e:TypeId) (i:TypeInfo) (z:Value) (size bytes:Nat) (ht:P.underlying t = some (.slice e)) (hi:P.info? e = some i) (hz:i.zero = some z)
 (hsize:i.size = size) (hby:i.bytes = bytes) (hzs:z.cells.size = size) (hsz:0 < size) (v:Value) (n:Nat) (xs:List Value) (hown:OwnO w e size v n xs)
 (a:Addr) (m c:Nat) (news:List Value) (hl:news.length = m * size) (hnews:∀ j u,news[j]? = some u → w.cell? (a.add j) = some u) (h1:∀ u ∈ news,u.oneCell' = true)
 (h63:n + m ≤ maxLen) (hbytes:(n + m) * bytes ≤ 140737488355328) :
 ∃ v' w',(Builtin.append_ #[t,t] ty #[v,.slice (some a) m c]).run P w = .ok v' w' ∧ OwnO w' e size v' (n + m) (xs ++ news) ∧ w.grownBy w' v.ownBlock ∧ (v'.ownBlock = v.ownBlock ∨ v'.ownBlock = some w.heap.size):=by
 have hlen:(xs ++ news).length = (n + m) * size:=by rw [List.length_append,hown.1,hl,Nat.add_mul]
 obtain ⟨hxl,⟨rfl,rfl⟩ | ⟨g,o,cap,cur,rfl,hg,hnc,hcm,hcs,hxs⟩⟩:=hown
 ·have hx:xs = []:=List.eq_nil_of_length_eq_zero (by simpa using hxl);subst hx;obtain ⟨v',w',k1,k2,k3,-,k5⟩:=run_append_own_at (P:=P) w 0 t ty e i z size bytes ht hi hz hsize hby hzs hsz (.slice none 0 0) 0 [] (World.ownsRow_nil w 0 e size) a m c news hl hnews h1 h63 hbytes (Nat.zero_le _);exact ⟨v',w',k1,OwnO.of_row k2,k3,k5⟩
 ·subst hsize
  by_cases hroom:n + m ≤ cap
  ·have hfit:o + n * i.size + news.length ≤ cur.size:=by
    have:=Nat.mul_le_mul_right i.size hroom;rw [Nat.add_mul] at this;omega
   refine ⟨_,_,x8 w t ty e i ht hi g o n cap cur hg a m c news hl hnews h1 hroom hfit,⟨hlen,.inr ⟨g,o,cap,_,rfl,setRow_heap w g cur _ e _ hg,hroom,hcm,?_,fun j u hj=>?_⟩⟩,⟨rfl,rfl,rfl,by simp,fun k _ hk=>setRow_other w g k _ (fun e=>hk (by simp [Value.ownBlock,e]))⟩,.inl rfl⟩
   ·simp only [List.size_toArray,List.length_append,List.length_take,List.length_drop,Array.length_toList];omega
   ·rw [List.getElem?_toArray,List.append_assoc];have htl:(cur.toList.take (o + n * i.size)).length = o + n * i.size:=by rw [List.length_take,Array.length_toList]; omega
    by_cases hjl:j < xs.length
    ·rw [List.getElem?_append_left hjl] at hj;rw [List.getElem?_append_left (by omega),List.getElem?_take,if_pos (by omega),Array.getElem?_toList];exact hxs j u hj
    ·rw [List.getElem?_append_right (by omega)] at hj;have hjn:=(List.getElem?_eq_some_iff.1 hj).1;rw [List.getElem?_append_right (by omega),htl,show o + j - (o + n * i.size) = j - xs.length by omega,List.getElem?_append_left hjn];exact hj
  ·subst hby
   have holds:∀ j u,xs[j]? = some u → w.cell? ((⟨g,o,none⟩:Addr).add j) = some u:=fun j u hj=>by
    rw [Addr.add_lit,cell_of_row w g _ cur e (0,0) hg];exact hxs j u hj
   have hr:=run_append_grow (P:=P) w t ty e i z ht hi hz ⟨g,o,none⟩ n cap xs hxl holds a m c news hl hnews (by omega) (by simp only [maxLen] at h63; omega) (growslice_fits (by omega) hbytes);have hge:=grownCap_ge w (n + m) cap e;refine ⟨_,_,hr,⟨hlen,.inr ⟨w.heap.size,0,_,_,rfl,heap_alloc_new w.drew _,hge,grownCap_le_maxLen w (n + m) cap e h63,?_,fun j u hj=>?_⟩⟩,⟨rfl,rfl,rfl,by simp,fun k hk _=>Go.heap_alloc_old w.drew _ hk⟩,.inr rfl⟩
   ·simp only [Array.size_append,List.size_toArray,size_zeroCells,hzs,hxl,hl,← Nat.add_mul,Nat.zero_add];exact Nat.mul_le_mul_right _ (by omega)
   ·have hjl:=(List.getElem?_eq_some_iff.1 hj).1;rw [Nat.zero_add,← Array.getElem?_toList];simp only [Array.toList_append];rw [List.getElem?_append_left hjl];exact hj
end
end
section
open Go Go.RowKit
theorem Em {rows rows2:List (List C)} {j q:Nat} (h:j < rows.length):cg (rows ++ rows2) j q = cg rows j q:=by
 unfold cg; rw [List.getElem?_append_left h]
theorem uf {rows rows2:List (List C)} {j q:Nat} (h:rows.length ≤ j):cg (rows ++ rows2) j q = cg rows2 (j - rows.length) q:=by
 unfold cg; rw [List.getElem?_append_right h]
def eg (val:Val) (d n k:Nat) (v':Value) (news:List Value):Val:=fun key path=>if key = (d,0) then (match path with
 | [(0,0)]=>v'
 | (0,0) :: (j,q) :: z=>if j < n then val key ((0,0) :: (j,q) :: z) else (news[(j - n) * k + q]?).getD undef
 | p=>val key p) else val key path
theorem C.flat_at {c:C} (hf:c.flat = true) {z:aj} {c':C} (h:c.at z = some c'):z = [] ∧ c' = c:=by
 cases z with
 | nil=>rw [da] at h; cases h; exact ⟨rfl,rfl⟩
 | cons s z =>
  obtain ⟨t,k,rows,c1,h1,-⟩:=ei h;rw [h1] at hf; cases hf
section
variable {w0:Base} {e:Env} {a:Act} {w:World} {val:Val} {S:Nat → Prop}
theorem StV.growD (h:StV w0 e a w val S) {d t k m:Nat} {rows rows2:List (List C)} {v':Value} {xs news:List Value} {w':World} (hd:d < e.n)
 (hc:e.con (d,0) = some ⟨none,[.sl true t k rows]⟩) (hk:0 < k) (hr2:∀ r ∈ rows2,r.length = k) (hm:m = rows2.length)
 (hxs:∀ j q c,cg rows j q = some c → xs[j * k + q]? = some (val (d,0) [(0,0),(j,q)])) (hxl:xs.length = rows.length * k)
 (hnf:∀ r ∈ rows2,∀ c ∈ r,c.flat = true) (hnews:∀ j q c,cg rows2 j q = some c → ∃ u,news[j * k + q]? = some u ∧ RO w S c u)
 (hown:OwnO w' t k v' (rows.length + m) (xs ++ news)) (hg:w.grownBy w' (val (d,0) [(0,0)]).ownBlock)
 (hb:v'.ownBlock = (val (d,0) [(0,0)]).ownBlock ∨ v'.ownBlock = some w.heap.size) :
 StV w0 (e.set d (.own false 1) (oneCon ⟨none,[.sl true t k (rows ++ rows2)]⟩)) (a.put (some d) v') w' (eg val d rows.length k v' news) S:=by
 subst hm;have hl0:look [C.sl true t k rows] [(0,0)] = some (.sl true t k rows):=by rw [dv]; rfl
 obtain ⟨-,hkr,hsl⟩:=h.mem.node (d,0) _ _ _ hc hl0
 have hS:∀ b,S b → b < w.heap.size → w'.heap[b]? = w.heap[b]?:=fun b hb hl=>hg.block b hl fun he=>by
  rcases hsl with ⟨-,h0⟩ | ⟨b1,o1,cap,cur,h0,-⟩
  ·rw [h0] at he; cases he
  ·rw [h0] at he;simp only [Value.ownBlock,Option.some.injEq] at he;subst he;exact (h.mem.sep b hb).2 (d,0) [(0,0)] (.inr ⟨_,t,k,rows,_,_,hc,hl0,_,h0⟩)
 have hgB:∀ b,(val (d,0) [(0,0)]).ownBlock = some b → OwnB e.con val b (d,0) [(0,0)]:=fun b he=>by
  rcases hsl with ⟨-,h0⟩ | ⟨b1,o1,cap,cur,h0,-⟩
  ·rw [h0] at he; cases he
  ·rw [h0] at he;simp only [Value.ownBlock,Option.some.injEq] at he;subst he;exact .inr ⟨_,t,k,rows,_,_,hc,hl0,_,h0⟩
 have hO:∀ b key p,OwnB e.con val b key p → (key,p) ≠ ((d,0),[(0,0)]) → w'.heap[b]? = w.heap[b]?:=fun b key p ho hne=>hg.block b (h.mem.lt ho) fun he=>by
  have:=h.mem.inj b _ _ _ _ ho (hgB b he.symm);exact hne (by rw [this.1,this.2])
 have hcon:∀ key,key ≠ (d,0) → key.1 ≠ d → (e.set d (.own false 1) (oneCon ⟨none,[.sl true t k (rows ++ rows2)]⟩)).con key = e.con key:=fun key _ hk=>by simp [Env.set,hk]
 have hcd:(e.set d (.own false 1) (oneCon ⟨none,[.sl true t k (rows ++ rows2)]⟩)).con (d,0) = some ⟨none,[.sl true t k (rows ++ rows2)]⟩:=by simp [Env.set,oneCon]
 have hcs:∀ i,i ≠ 0 → (e.set d (.own false 1) (oneCon ⟨none,[.sl true t k (rows ++ rows2)]⟩)).con (d,i) = none:=fun i hi=>by simp [Env.set,oneCon,hi]
 have hval:∀ key,key ≠ (d,0) → eg val d rows.length k v' news key = val key:=fun key hk=>by funext p; unfold eg; rw [if_neg hk]
 have hv0:eg val d rows.length k v' news (d,0) [(0,0)] = v':=by unfold eg; rw [if_pos rfl]; rfl
 have hvo:∀ j q z,j < rows.length → eg val d rows.length k v' news (d,0) ((0,0) :: (j,q) :: z) = val (d,0) ((0,0) :: (j,q) :: z):=fun j q z hj=>by unfold eg; rw [if_pos rfl]; simp only [if_pos hj]
 have hvn:∀ j q z,rows.length ≤ j → eg val d rows.length k v' news (d,0) ((0,0) :: (j,q) :: z) = (news[(j - rows.length) * k + q]?).getD undef:=fun j q z hj=>by unfold eg; rw [if_pos rfl]; simp only [if_neg (show ¬ j < rows.length by omega)]
 have hlk:∀ p c,look [C.sl true t k (rows ++ rows2)] p = some c → (p = [(0,0)] ∧ c = .sl true t k (rows ++ rows2)) ∨
  (∃ j q z,p = (0,0) :: (j,q) :: z ∧ j < rows.length ∧ look [C.sl true t k rows] p = some c) ∨
  (∃ j q,p = [(0,0),(j,q)] ∧ rows.length ≤ j ∧ cg rows2 (j - rows.length) q = some c):=fun p c hp=>by
  match p with
  | []=>cases hp
  | (j0,q0) :: z =>
   unfold look at hp
   cases j0 with
   | succ j0=>simp at hp
   | zero =>
    cases q0 with
    | succ q0=>simp at hp
    | zero =>
     simp only [List.getElem?_cons_zero,Option.bind_some] at hp
     match z with
     | []=>rw [da] at hp; cases hp; exact .inl ⟨rfl,rfl⟩
     | (j,q) :: z =>
      rw [d7] at hp
      by_cases hj:j < rows.length
      ·rw [Em hj] at hp;refine .inr (.inl ⟨j,q,z,rfl,hj,?_⟩);unfold look;simp only [List.getElem?_cons_zero,Option.bind_some];rw [d7]; exact hp
      ·rw [uf (by omega)] at hp
       cases hx:cg rows2 (j - rows.length) q with
       | none=>rw [hx] at hp; cases hp
       | some c0 =>
        rw [hx] at hp;obtain ⟨r,g1,g2⟩:=bi.1 hx;obtain ⟨rfl,rfl⟩:=C.flat_at (hnf r (List.mem_of_getElem? g1) c0 (List.mem_of_getElem? g2)) hp;exact .inr (.inr ⟨j,q,rfl,by omega,hx⟩)
 have hown2:∀ b key p,OwnB (e.set d (.own false 1) (oneCon ⟨none,[.sl true t k (rows ++ rows2)]⟩)).con (eg val d rows.length k v' news) b key p →
  (key = (d,0) ∧ p = [(0,0)] ∧ v'.ownBlock = some b) ∨ (OwnB e.con val b key p ∧ (key,p) ≠ ((d,0),[(0,0)])):=fun b key p ho=>by
  by_cases hkd:key.1 = d
  ·by_cases hk0:key = (d,0)
   ·subst hk0
    rcases ho with ⟨-,⟨t',xs',h1⟩,-⟩ | ⟨cn,t',k',rows',n',cap',h1,h2,h3⟩
    ·rw [hcd] at h1; cases h1
    ·rw [hcd] at h1;cases h1
     rcases hlk p _ h2 with ⟨rfl,-⟩ | ⟨j,q,z,rfl,hj,h4⟩ | ⟨j,q,rfl,hj,h4⟩
     ·rw [hv0] at h3;obtain ⟨o,h3⟩:=h3;exact .inl ⟨rfl,rfl,by rw [h3]; rfl⟩
     ·rw [hvo j q z hj] at h3;exact .inr ⟨.inr ⟨_,t',k',rows',n',cap',hc,h4,h3⟩,by simp⟩
     ·obtain ⟨r,g1,g2⟩:=bi.1 h4;have:=hnf r (List.mem_of_getElem? g1) _ (List.mem_of_getElem? g2);cases this
   ·obtain ⟨x,y⟩:=key;simp only at hkd;subst hkd;obtain ⟨cn,hh⟩:=ho.some;rw [hcs y (fun hy=>hk0 (by rw [hy]))] at hh;cases hh
  ·have hne:key ≠ (d,0):=fun hh=>hkd (by rw [hh]);exact .inr ⟨ho.con (hcon key hne hkd).symm (hval key hne).symm,fun hh=>hne (by cases hh; rfl)⟩
 refine ⟨?_,h.defers,⟨fun key cn p c h1 h2=>?_,fun key t' xs' h1=>?_,fun b key p key' p' h1 h2=>?_,fun b hb'=>⟨Nat.lt_of_lt_of_le (h.mem.sep b hb').1 hg.size,fun key p ho=>?_⟩⟩,fun s=>?_,h.frm.grown hg (fun g hh=>h.low _ _ _ (hgB g hh)),fun b key p ho=>?_,fun s hs=>?_,h.sS⟩
 ·simp [Act.put,Env.set,h.sz]
 ·by_cases hkd:key.1 = d
  ·by_cases hk0:key = (d,0)
   ·subst hk0;rw [hcd] at h1;cases h1
    rcases hlk p c h2 with ⟨rfl,rfl⟩ | ⟨j,q,z,rfl,hj,h4⟩ | ⟨j,q,rfl,hj,h4⟩
    ·refine ⟨hk,fun r hr=>by rcases List.mem_append.1 hr with hr | hr; exact hkr r hr; exact hr2 r hr,?_⟩;obtain ⟨hol,ho⟩:=hown;rw [hv0]
     rcases ho with ⟨ho1,ho2⟩ | ⟨g,o,cap,cur,ho1,ho3,ho4,ho5,ho6,ho7⟩
     ·left;refine ⟨?_,ho1⟩;have e1:rows = []:=List.eq_nil_of_length_eq_zero (by omega);have e2:rows2 = []:=List.eq_nil_of_length_eq_zero (by omega);rw [e1,e2]; rfl
     ·right;refine ⟨g,o,cap,cur,by rw [ho1,List.length_append],ho3,by rw [List.length_append]; exact ho4,ho5,ho6,fun j q c hjc=>?_⟩;apply ho7
      by_cases hj:j < rows.length
      ·rw [Em hj] at hjc;have hx:=hxs j q c hjc;show _ = some (eg val d rows.length k v' news (d,0) ((0,0) :: (j,q) :: []));rw [hvo j q [] hj,List.getElem?_append_left (List.getElem?_eq_some_iff.1 hx).1];exact hx
      ·rw [uf (by omega)] at hjc;obtain ⟨u,hu,-⟩:=hnews _ _ _ hjc;show _ = some (eg val d rows.length k v' news (d,0) ((0,0) :: (j,q) :: []));rw [hvn j q [] (by omega)]
       have e3:j * k + q = xs.length + ((j - rows.length) * k + q):=by
        rw [hxl];have:j * k = rows.length * k + (j - rows.length) * k:=by rw [← Nat.add_mul]; congr 1; omega
        omega
       rw [e3,List.getElem?_append_right (by omega),Nat.add_sub_cancel_left,hu]; rfl
    ·have hno:=h.mem.node (d,0) _ _ _ hc h4;have:NodeOk w S (eg val d rows.length k v' news (d,0)) ((0,0) :: (j,q) :: z) c:=hno.reval (va:=val (d,0)) fun z'=>hvo j q (z ++ z') hj;refine this.keep (fun _ h _=>h) hS fun t' k' rows' b o n cap hc' hv hl=>?_;rw [hvo j q z hj] at hv;subst hc';exact hO b (d,0) _ (.inr ⟨_,t',k',rows',n,cap,hc,h4,o,hv⟩) (by simp)
    ·obtain ⟨r,g1,g2⟩:=bi.1 h4;have hf:=hnf r (List.mem_of_getElem? g1) _ (List.mem_of_getElem? g2);obtain ⟨u,hu,hro⟩:=hnews _ _ _ h4
     have hvv:eg val d rows.length k v' news (d,0) [(0,0),(j,q)] = u:=by
      rw [hvn j q [] hj,hu]; rfl
     cases c with
     | p x=>show _ = x; rw [hvv]; exact fp hro
     | hole=>trivial
     | sl own t' k' rows' =>
      cases own with
      | true=>cases hf
      | false =>
       show RO w' S _ (eg val d rows.length k v' news (d,0) [(0,0),(j,q)]);rw [hvv];exact hro.keep (fun _ h _=>h) hS
   ·obtain ⟨x,y⟩:=key;simp only at hkd;subst hkd;rw [hcs y (fun hy=>hk0 (by rw [hy]))] at h1;cases h1
  ·have hne:key ≠ (d,0):=fun hh=>hkd (by rw [hh]);rw [hcon key hne hkd] at h1;rw [hval key hne];refine (h.mem.node key cn p c h1 h2).keep (fun _ h _=>h) hS fun t' k' rows' b o n cap hc' hv hl=>?_;subst hc';exact hO b key p (.inr ⟨_,t',k',rows',n,cap,h1,h2,o,hv⟩) fun hh=>hne (by cases hh; rfl)
 ·by_cases hkd:key.1 = d
  ·by_cases hk0:key = (d,0)
   ·subst hk0; rw [hcd] at h1; cases h1
   ·obtain ⟨x,y⟩:=key;simp only at hkd;subst hkd;rw [hcs y (fun hy=>hk0 (by rw [hy]))] at h1;cases h1
  ·have hne:key ≠ (d,0):=fun hh=>hkd (by rw [hh]);rw [hcon key hne hkd] at h1;rw [hval key hne];exact (h.mem.root key t' xs' h1).keep fun b hv hl=>hO b key [] (.inl ⟨rfl,⟨t',xs',h1⟩,hv⟩) (by simp)
 ·have hcase:∀ b,v'.ownBlock = some b → ∀ key p,OwnB e.con val b key p → (key,p) ≠ ((d,0),[(0,0)]) → False:=fun b hvb key p ho hne=>by
   rcases hb with hb | hb
   ·rw [hb] at hvb;have:=h.mem.inj b _ _ _ _ ho (hgB b hvb);exact hne (by rw [this.1,this.2])
   ·rw [hb] at hvb;cases hvb;have:=h.mem.lt ho;omega
  rcases hown2 b key p h1 with ⟨rfl,rfl,hv1⟩ | ⟨ho1,hn1⟩ <;> rcases hown2 b key' p' h2 with ⟨rfl,rfl,hv2⟩ | ⟨ho2,hn2⟩
  ·exact ⟨rfl,rfl⟩
  ·exact (hcase b hv1 _ _ ho2 hn2).elim
  ·exact (hcase b hv2 _ _ ho1 hn1).elim
  ·exact h.mem.inj b _ _ _ _ ho1 ho2
 ·rcases hown2 b key p ho with ⟨rfl,rfl,hv1⟩ | ⟨ho1,-⟩
  ·rcases hb with hb | hb
   ·rw [hb] at hv1;exact (h.mem.sep b hb').2 _ _ (hgB b hv1)
   ·rw [hb] at hv1;cases hv1;have:=(h.mem.sep _ hb').1;omega
  ·exact (h.mem.sep b hb').2 _ _ ho1
 ·rw [o8 (by rw [h.sz]; exact hd)]
  by_cases hs:s = d
  ·subst hs;rw [if_pos rfl];have:(e.set s (.own false 1) (oneCon ⟨none,[.sl true t k (rows ++ rows2)]⟩)).s s = .own false 1:=by simp [Env.set]
   rw [this];show TVok w' S _ _ (.own false 1) v';exact ⟨⟨_,hcd⟩,rfl,hv0.symm⟩
  ·rw [if_neg hs];have:(e.set d (.own false 1) (oneCon ⟨none,[.sl true t k (rows ++ rows2)]⟩)).s s = e.s s:=by simp [Env.set,hs]
   rw [this];have hne:∀ i,(s,i) ≠ (d,0):=fun i hh=>hs (by cases hh; rfl);refine (h.slot s).keep (fun _ h _=>h) hS (fun i=>hcon _ (hne i) hs) (fun i j=>by rw [hval _ (hne i)]) (by rw [hval _ (hne 0)]) (im d _ _) (fun r g p hg' hf=>?_);obtain ⟨hr,hf⟩:=e8 hg' hf;exact ⟨hf,by rw [hval _ (fun hh=>hr (by cases hh; rfl))]⟩
 ·rcases hown2 b key p ho with ⟨rfl,rfl,hv1⟩ | ⟨ho1,-⟩
  ·rcases hb with hb | hb
   ·rw [hb] at hv1;exact h.low _ _ _ (hgB b hv1)
   ·rw [hb] at hv1;cases hv1;exact .inl h.frm.size
  ·exact h.low b key p ho1
 ·have hs:e.n ≤ s:=hs;rw [hval _ (fun he=>by have he:s = d:=congrArg Prod.fst he; omega)];exact h.rts s hs
end
end
section
open Go Go.RowKit
def km (rows:List (List C)):Bool:=rows.all fun r=>r.all fun c=>c.flat && c.one
theorem El {rows:List (List C)} (h:km rows = true) {j q:Nat} {c:C} (hc:cg rows j q = some c):c.flat = true ∧ c.one = true:=by
 obtain ⟨r,g1,g2⟩:=bi.1 hc;have h1:=List.all_eq_true.1 (List.all_eq_true.1 h r (List.mem_of_getElem? g1)) c (List.mem_of_getElem? g2);simpa using h1
def Dt (k:Nat) (av2:AV) (kq:List (List C) → Q) (kb:Nat → aj → List C → Q):Q:=match av2 with
 | .c (.p (.slice none 0 0))=>kq []
 | .c (.sl _ _ k2 rows2)=>if k2 = k ∧ km rows2 = true then kq rows2 else .fail
 | .ref s g p ag m=>if ag = false ∧ m = 1 then .sub s g p fun c=>(match c with
  | some (.sl true _ k2 rows2)=>if k2 = k then (if km rows2 = true then kq rows2 else match rows2 with
   | [row]=>if row.all C.one = true then kb s p row else .fail
   | _=>.fail) else .fail
  | _=>.fail) else .fail
 | _=>.fail
structure SrcB (e:Env) (val:Val) (k s:Nat) (p:aj) (row:List C) (v2:Value):Prop where
 len:row.length = k
 one:row.all C.one = true
 src:∃ cn tt b o cap,e.con (s,0) = some cn ∧ look cn.xs p = some (.sl true tt k [row]) ∧ v2 = val (s,0) p ∧ val (s,0) p = .slice (some ⟨b,o,none⟩) 1 cap
theorem SrcB.keep {e e':Env} {val val':Val} {k s:Nat} {p:aj} {row:List C} {v2:Value} (h:SrcB e val k s p row v2) (hc:e'.con (s,0) = e.con (s,0)) (hv:val' (s,0) = val (s,0)):SrcB e' val' k s p row v2:=by
 obtain ⟨h1,h2,cn,tt,b,o,cap,h3,h4,h5,h6⟩:=h;exact ⟨h1,h2,cn,tt,b,o,cap,hc.trans h3,h4,by rw [hv]; exact h5,by rw [hv]; exact h6⟩
structure Src (w:World) (S:Nat → Prop) (k:Nat) (rows2:List (List C)) (v2:Value):Prop where
 len:∀ r ∈ rows2,r.length = k
 flat:∀ r ∈ rows2,∀ c ∈ r,c.flat = true
 src:∃ (A:Option Addr) (c:Nat) (news:List Value),v2 = .slice A rows2.length c ∧ news.length = rows2.length * k ∧ (∀ j q c,cg rows2 j q = some c → ∃ u,news[j * k + q]? = some u ∧ RO w S c u) ∧ (∀ u ∈ news,u.oneCell' = true) ∧
  (rows2 ≠ [] → ∃ ad,A = some ad ∧ ∀ i u,news[i]? = some u → w.cell? (ad.add i) = some u)
theorem Src.nil (w:World) (S:Nat → Prop) (k:Nat) (A:Option Addr) (c:Nat):Src w S k [] (.slice A 0 c) :=
 ⟨fun _ h=>by simp at h,fun _ h=>by simp at h,A,c,[],rfl,by simp,fun j q c h=>by simp [cg] at h,fun _ h=>by simp at h,fun h=>absurd rfl h⟩
theorem Si {w:World} {S:Nat → Prop} {k cap:Nat} {rows2:List (List C)} {b off:Nat} (hk:0 < k) (hr:∀ r ∈ rows2,r.length = k) (ho:km rows2 = true)
 (hc:∀ j q c,cg rows2 j q = some c → ∃ u,w.cell? ⟨b,off + (j * k + q),none⟩ = some u ∧ RO w S c u):Src w S k rows2 (.slice (some ⟨b,off,none⟩) rows2.length cap):=by
 have hdec:∀ i,i < rows2.length * k → ∃ c u,cg rows2 (i / k) (i % k) = some c ∧ w.cell? ⟨b,off + i,none⟩ = some u ∧ RO w S c u:=fun i hi=>by
  obtain ⟨c,h1⟩:=Wn hr (j:=i / k) (q:=i % k) (Nat.div_lt_of_lt_mul (by rw [Nat.mul_comm]; exact hi)) (Nat.mod_lt _ hk);obtain ⟨u,h2,h3⟩:=hc _ _ _ h1;have e:i / k * k + i % k = i:=by rw [Nat.mul_comm]; exact Nat.div_add_mod i k
  rw [e] at h2;exact ⟨c,u,h1,h2,h3⟩
 have hat:∀ i,i < rows2.length * k → ((List.range (rows2.length * k)).map fun i=>(w.cell? ⟨b,off + i,none⟩).getD undef)[i]? = some ((w.cell? ⟨b,off + i,none⟩).getD undef):=fun i hi=>by
  rw [List.getElem?_map,List.getElem?_range hi]; rfl
 refine ⟨hr,fun r hrr c hcc=>?_,_,cap,(List.range (rows2.length * k)).map fun i=>(w.cell? ⟨b,off + i,none⟩).getD undef,rfl,by simp,fun j q c hjq=>?_,fun u hu=>?_,fun hne=>⟨_,rfl,fun i u hi=>?_⟩⟩
 ·have h1:=List.all_eq_true.1 (List.all_eq_true.1 ho r hrr) c hcc;simp only [Bool.and_eq_true] at h1;exact h1.1
 ·obtain ⟨u,h2,h3⟩:=hc j q c hjq
  have hlt:j * k + q < rows2.length * k:=by
   have h4:=we hjq;have h5:=F2 hr hjq;have:(j + 1) * k ≤ rows2.length * k:=Nat.mul_le_mul_right k h4;rw [Nat.add_mul] at this;omega
  exact ⟨u,by rw [hat _ hlt,h2]; rfl,h3⟩
 ·obtain ⟨i,hi,rfl⟩:=List.mem_map.1 hu;obtain ⟨c,u,h1,h2,h3⟩:=hdec i (by simpa using hi);rw [h2];exact (B7 h3 (El ho h1).2).1
 ·have hlt:i < rows2.length * k:=by
   have:=(List.getElem?_eq_some_iff.1 hi).1;simpa using this
  rw [hat i hlt] at hi;cases hi;obtain ⟨c,u,h1,h2,h3⟩:=hdec i hlt;rw [jn,h2]; rfl
section
variable {P:Program} {nn:Nat} {o:Oper} {ct:Cts} {t:Option Stat} {e:Env} {K:Env → Prop} {w0:Base} {a:Act} {w:World} {val:Val} {S:Nat → Prop} {Qx:Exit → Act → World → Prop}
theorem H9 {k:Nat} {av2:AV} {y:Operand} {kq:List (List C) → Q} (hk:0 < k) (hs:StV w0 e a w val S) (h4:av2.plain = true → ∀ s',SV e w val S s' av2 (a.eval y)) {kb:Nat → aj → List C → Q} (h:ah ct t (Dt k av2 kq kb) e K):(∃ rows2,ah ct t (kq rows2) e K ∧ Src w S k rows2 (a.eval y)) ∨ ∃ s p row,ah ct t (kb s p row) e K ∧ SrcB e val k s p row (a.eval y):=by
 unfold Dt at h;split at h
 ·refine .inl ⟨[],h,?_⟩;have:a.eval y = .slice none 0 0:=fp (h4 rfl 0);rw [this];exact Src.nil _ _ _ _ _
 ·rename_i own tt k2 rows2
  split at h
  ·rename_i hh
   obtain ⟨rfl,hok⟩:=hh;refine .inl ⟨rows2,h,?_⟩;obtain ⟨A,cap,h5,h6,h7,h8⟩:=RO.shape (h4 rfl 0)
   by_cases hne:rows2 = []
   ·subst hne;rw [h5]; exact Src.nil _ _ _ _ _
   ·obtain ⟨b,off,rfl,-,-,h9,h10⟩:=h8 hne;rw [h5];refine Si hk h9 hok fun j q c hjq=>?_;obtain ⟨u,h11,h12⟩:=h10 j q c hjq;exact ⟨u,by rw [← Nat.add_assoc]; exact h11,h12⟩
  ·exact h.elim
 ·rename_i s g p ag m
  split at h
  ·rename_i hh
   obtain ⟨rfl,rfl⟩:=hh;have h5:=h.2;dsimp only at h5;split at h5
   ·rename_i tt k2 rows2 hsub
    split at h5
    ·rename_i hh
     subst hh;obtain ⟨hf,cn,hcn,hlk⟩:=ls hsub;obtain ⟨-,hv⟩:=h4 rfl 0
     obtain ⟨-,hv⟩:=hv fun i hi=>by
      have:i = 0:=by omega
      subst this;rw [b8]; exact hf
     obtain ⟨-,h9,h10⟩:=hs.mem.node _ _ _ _ hcn hlk;split at h5
     ·rename_i hok
      refine .inl ⟨rows2,h5,?_⟩;rw [hv]
      rcases h10 with ⟨rfl,h10⟩ | ⟨b,o1,cap,cur,h10,h11,-,-,-,h12⟩
      ·rw [h10]; exact Src.nil _ _ _ _ _
      ·rw [h10];refine Si hk h9 hok fun j q c hjq=>⟨val (s,0) (p ++ [(j,q)]),?_,?_⟩
       ·rw [cell_of_row w b _ cur tt (0,0) h11];exact h12 j q c hjq
       ·have hno:=hs.mem.node _ _ _ _ hcn ((gx (eh hlk)).2 ⟨_,_,_,hlk,hjq⟩);obtain ⟨hf1,ho1⟩:=El hok hjq
        cases c with
        | p v=>rw [show val (s,0) (p ++ [(j,q)]) = v from hno]; exact .p v
        | hole=>cases ho1
        | sl own t2 k3 rows3 =>
         cases own with
         | true=>cases hf1
         | false=>exact hno
     ·split at h5
      ·rename_i row hno2
       split at h5
       ·rename_i hone
        rcases h10 with ⟨h10,-⟩ | ⟨b,o1,cap,cur,h10,-⟩
        ·cases h10
        ·exact .inr ⟨s,p,row,h5,h9 _ (by simp),hone,cn,tt,b,o1,cap,hcn,hlk,hv,h10⟩
       ·exact h5.elim
      ·exact h5.elim
    ·exact h5.elim
   ·exact h5.elim
  ·exact h.elim
 ·exact h.elim
theorem Pi {va:aj → Value} {p:aj} {ty k:Nat} {rows:List (List C)} (h:SlOk w va p ty k rows) :
 ∃ xs,OwnO w ty k (va p) rows.length xs ∧ xs.length = rows.length * k ∧ ∀ j q c,cg rows j q = some c → xs[j * k + q]? = some (va (p ++ [(j,q)])):=by
 obtain ⟨hk,hr,⟨rfl,h1⟩ | ⟨b,o,cap,cur,h1,h2,h3,h4,h5,h6⟩⟩:=h
 ·exact ⟨[],⟨by simp,.inl ⟨h1,rfl⟩⟩,by simp,fun j q c hc=>by simp [cg] at hc⟩
 ·have hle:rows.length * k ≤ cap * k:=Nat.mul_le_mul_right k h3;refine ⟨(cur.toList.drop o).take (rows.length * k),⟨by simp; omega,.inr ⟨b,o,cap,cur,h1,h2,h3,h4,h5,fun i u hi=>?_⟩⟩,by simp; omega,fun j q c hc=>?_⟩
  ·rw [List.getElem?_take] at hi;split at hi
   ·rwa [List.getElem?_drop,Array.getElem?_toList] at hi
   ·cases hi
  have hlt:j * k + q < rows.length * k:=by
   have h7:=we hc;have h8:=F2 hr hc;have:(j + 1) * k ≤ rows.length * k:=Nat.mul_le_mul_right k h7;rw [Nat.add_mul] at this;omega
  rw [List.getElem?_take,if_pos hlt,List.getElem?_drop,Array.getElem?_toList];exact h6 j q c hc
theorem StV.nilOwn (h:StV w0 e a w val S) {d ty k:Nat} (hd:d < e.n) (hk:0 < k) :
 ∃ val',StV w0 (e.set d (.own false 1) (oneCon ⟨none,[.sl true ty k []]⟩)) (a.put (some d) (.slice none 0 0)) w val' S ∧ val' (d,0) [(0,0)] = .slice none 0 0 ∧ ∀ key:bh,key.1 ≠ d → val' key = val key:=by
 have hvd:∀ i p,dt d (fun _ _=>Value.slice none 0 0) val (d,i) p = .slice none 0 0:=fun i p=>by simp [dt]
 have hcd:∀ key cn,ij d (oneCon ⟨none,[.sl true ty k []]⟩) key = some cn → key = (d,0) ∧ cn = ⟨none,[.sl true ty k []]⟩:=fun key cn hk=>by
  obtain ⟨k1,k2⟩:=key;unfold ij oneCon at hk;split at hk
  ·rename_i h1
   split at hk
   ·rename_i h2; cases hk; simp only at h1 h2; subst h1 h2; exact ⟨rfl,rfl⟩
   ·cases hk
  ·cases hk
 have hno:∀ b key p,¬ OwnB (ij d (oneCon ⟨none,[.sl true ty k []]⟩)) (dt d (fun _ _=>Value.slice none 0 0) val) b key p:=fun b key p ho=>by
  rcases ho with ⟨-,⟨t',xs,h1⟩,-⟩ | ⟨cn,t',k',rows,n,cap,h1,-,o,h3⟩
  ·obtain ⟨-,h2⟩:=hcd _ _ h1; cases h2
  ·obtain ⟨rfl,-⟩:=hcd _ _ h1;rw [hvd] at h3; cases h3
 have hlt:∀ b,S b → b < w.heap.size:=fun b hb=>(h.mem.sep b hb).1
 have hm:MemOk w (ij d (oneCon ⟨none,[.sl true ty k []]⟩)) (dt d (fun _ _=>Value.slice none 0 0) val) (fun b=>S b ∨ False):=by
  refine ⟨fun key cn p c h1 h2=>?_,fun key t' xs h1=>?_,fun b key p key' p' ho=>(hno _ _ _ ho).elim,fun b hb=>⟨hlt b (hb.resolve_right id),fun key p ho=>hno _ _ _ ho⟩⟩
  ·obtain ⟨rfl,rfl⟩:=hcd _ _ h1
   match p with
   | []=>cases h2
   | (j0,q0) :: z =>
    unfold look at h2
    cases j0 with
    | succ j0=>simp at h2
    | zero =>
     cases q0 with
     | succ q0=>simp at h2
     | zero =>
      simp only [List.getElem?_cons_zero,Option.bind_some] at h2
      cases z with
      | nil=>rw [da] at h2; cases h2; exact ⟨hk,fun _ hr=>by simp at hr,.inl ⟨rfl,hvd _ _⟩⟩
      | cons s z=>rw [d7] at h2; simp [cg] at h2
  ·obtain ⟨-,h2⟩:=hcd _ _ h1; cases h2
 have hsv:SV (e.set d (.own false 1) (oneCon ⟨none,[.sl true ty k []]⟩)) w (dt d (fun _ _=>Value.slice none 0 0) val) (fun b=>S b ∨ False) d (.own false 1) (.slice none 0 0) :=
  ⟨⟨.sl true ty k [],by simp [Env.set,oneCon]⟩,rfl,(hvd 0 _).symm⟩
 have:=h.setG (S2:=fun _=>False) (d:=d) (av:=.own false 1) (cs:=oneCon ⟨none,[.sl true ty k []]⟩) (v:=.slice none 0 0) (vd:=fun _ _=>Value.slice none 0 0) hd (Below.refl _ _) hm (fun b key p ho=>(hno _ _ _ ho).elim) (fun _ hf=>hf.elim) hsv;rw [pd] at this;exact ⟨_,this,hvd 0 _,fun key hk=>by simp [dt,hk]⟩
def py (P:Program) (nn:Nat) (d:Option Nat) (s:TypeId) (x y:Operand):Q:=match bp P s with
 | none=>.fail
 | some ti=>match ti.elem with
  | none=>.fail
  | some el=>match bp P el with
   | none=>.fail
   | some te=>match d with
    | none=>.fail
    | some dd=>opd x fun av=>opd y fun av2=>match av with
     | .c (.p (.slice none 0 0))=>Dt te.size av2 (fun rows2=>if rows2.length ≤ 1000000000 ∧ te.bytes ≤ 100000 then o5 nn (some dd) [.set dd (.own false 1) (oneCon ⟨none,[.sl true el te.size []]⟩)] (.own false 1) (oneCon ⟨none,[.sl true el te.size rows2]⟩) else .fail)
      fun s2 p2 row=>if dd ≠ s2 ∧ te.bytes ≤ 100000 ∧ dd < nn then .ups ([.set dd (.own false 1) (oneCon ⟨none,[.sl true el te.size []]⟩),.set dd (.own false 1) (oneCon ⟨none,[.sl true el te.size [List.replicate te.size .hole]]⟩)] ++ graftU s2 (p2 ++ [(0,0)]) dd [(0,0),(0,0)] 0 row) else .fail
     | .ref r g p ag m=>if ag = false ∧ m = 1 ∧ dd ≠ r then .sub r g p fun c=>(match c with
      | some (.sl true t k rows)=>if t = el ∧ k = te.size then Dt te.size av2 (fun rows2=>if rows.length + rows2.length ≤ 1000000000 ∧ te.bytes ≤ 100000 then o5 nn (some dd) (holesU r p 1 ++ [.set dd (.own false 1) (oneCon ⟨none,[.sl true el te.size rows]⟩)]) (.own false 1) (oneCon ⟨none,[.sl true el te.size (rows ++ rows2)]⟩) else .fail)
       (fun s2 p2 row=>if dd ≠ s2 ∧ r ≠ s2 ∧ rows.length + 1 ≤ 1000000000 ∧ te.bytes ≤ 100000 ∧ dd < nn then .ups (holesU r p 1 ++ [.set dd (.own false 1) (oneCon ⟨none,[.sl true el te.size rows]⟩),.set dd (.own false 1) (oneCon ⟨none,[.sl true el te.size (rows ++ [List.replicate te.size .hole])]⟩)] ++ graftU s2 (p2 ++ [(0,0)]) dd [(0,0),(rows.length,0)] 0 row) else .fail) else .fail
      | _=>.fail) else .fail
     | _=>.fail
theorem z8 {w:World} (t ty e:TypeId) (i:TypeInfo) (size c:Nat) (ht:P.underlying t = some (.slice e)) (hi:P.info? e = some i) {v:Value} {n:Nat} {xs:List Value} (hown:OwnO w e size v n xs) (A:Option Addr) :
 (Builtin.append_ #[t,t] ty #[v,.slice A 0 c]).run P w = .ok v w:=by
 rcases hown.2 with ⟨rfl,rfl⟩ | ⟨g,o,cap,cur,rfl,_,hnc,_⟩
 ·cases A <;> simp [Builtin.append_,run_underlying ht,sizeOf,typeInfo,hi,Builtin.lenOf,Builtin.firstCells,storeCells,loadCells,loadCellsFrom]
 ·cases A <;> simp [Builtin.append_,run_underlying ht,sizeOf,typeInfo,hi,Builtin.lenOf,Builtin.firstCells,hnc,storeCells,loadCells,loadCellsFrom]
theorem Cs (h:StV w0 e a w val S) {s el d:Nat} {ti te:TI} {rows rows2:List (List C)} {ty:TypeId} {A:Option Addr} {cc:Nat} {news:List Value} (hti:bp P s = some ti) (hel0:ti.elem = some el) (hte:bp P el = some te) (hd:d < e.n)
 (hc:e.con (d,0) = some ⟨none,[.sl true el te.size rows]⟩) (hr2:∀ r ∈ rows2,r.length = te.size) (hf2:∀ r ∈ rows2,∀ c ∈ r,c.flat = true) (hnl:news.length = rows2.length * te.size)
 (hnr:∀ j q c,cg rows2 j q = some c → ∃ u,news[j * te.size + q]? = some u ∧ RO w S c u) (hn1:∀ u ∈ news,u.oneCell' = true) (had:rows2 ≠ [] → ∃ ad,A = some ad ∧ ∀ i u,news[i]? = some u → w.cell? (ad.add i) = some u)
 (hl:rows.length + rows2.length ≤ 1000000000 ∧ te.bytes ≤ 100000) :
 ∃ v' w',(Builtin.append_ #[s,s] ty #[val (d,0) [(0,0)],.slice A rows2.length cc]).run P w = .ok v' w' ∧ StV w0 (e.set d (.own false 1) (oneCon ⟨none,[.sl true el te.size (rows ++ rows2)]⟩)) (a.put (some d) v') w' (eg val d rows.length te.size v' news) S:=by
 obtain ⟨i,u,z,hi,hu,hz,hsz,hby,hzz,hzs,hz1,hag,hel,hfi,hone,hpos⟩:=bl hti;obtain ⟨i2,u2,z2,hi2,hu2,hz2,hsz2,hby2,hzz2,hzs2,hz12,hag2,hel2,hfi2,hone2,hpos2⟩:=bl hte
 have hus:P.underlying s = some (.slice el):=by
  rw [hu];rw [hel0] at hel;cases u <;> simp [ji] at hel;rw [hel]
 have hl0:look [C.sl true el te.size rows] [(0,0)] = some (.sl true el te.size rows):=by rw [dv]; rfl
 obtain ⟨xs,hown,hxl,hxs⟩:=Pi (h.mem.node (d,0) _ _ _ hc hl0)
 by_cases hne:rows2 = []
 ·subst hne;have hn0:news = []:=List.eq_nil_of_length_eq_zero (by rw [hnl]; simp);subst hn0;refine ⟨_,w,z8 s ty el i2 te.size cc hus hi2 hown A,h.growD (m:=0) (news:=[]) hd hc hpos2 hr2 rfl hxs hxl hf2 hnr (by simpa using hown) (World.grownBy.refl _ _) (.inl rfl)⟩
 ·obtain ⟨ad,rfl,hcell⟩:=had hne
  obtain ⟨v',w',h1,h2,h3,h5⟩:=z7 (P:=P) (w:=w) s ty el i2 z2 te.size te.bytes hus hi2 hz2 hsz2 hby2 (by rw [hzs2,hsz2]) hpos2 _ rows.length xs hown ad rows2.length cc news hnl hcell hn1 (by unfold maxLen; omega) (by
   have:=Nat.mul_le_mul hl.1 hl.2
   omega)
  exact ⟨v',w',h1,h.growD (m:=rows2.length) hd hc hpos2 hr2 rfl hxs hxl hf2 hnr h2 h3 h5⟩
theorem E8 (h:StV w0 e a w val S) {s el d s2:Nat} {ti te:TI} {rows:List (List C)} {row:List C} {p2:aj} {v2:Value} {ty:TypeId} (hti:bp P s = some ti) (hel0:ti.elem = some el) (hte:bp P el = some te) (hd:d < e.n)
 (hc:e.con (d,0) = some ⟨none,[.sl true el te.size rows]⟩) (hsd:d ≠ s2) (hB:SrcB e val te.size s2 p2 row v2) (hl:rows.length + 1 ≤ 1000000000 ∧ te.bytes ≤ 100000) :
 ∃ v' w' val',(Builtin.append_ #[s,s] ty #[val (d,0) [(0,0)],v2]).run P w = .ok v' w' ∧ StV w0 (upds (graftU s2 (p2 ++ [(0,0)]) d [(0,0),(rows.length,0)] 0 row) (e.set d (.own false 1) (oneCon ⟨none,[.sl true el te.size (rows ++ [List.replicate te.size .hole])]⟩))) (a.put (some d) v') w' val' S:=by
 obtain ⟨hrl,hone,cn,tt,b,o,cap,hcn,hlk,rfl,hvs⟩:=hB;have hpn:=eh hlk;obtain ⟨hk,-,⟨hh,-⟩ | ⟨b',o',cap',cur,h1,h2,-,-,h3,h4⟩⟩:=h.mem.node _ _ _ _ hcn hlk
 ·cases hh
 have hbb:=h1.symm.trans hvs;simp only [Value.slice.injEq,Option.some.injEq,Addr.mk.injEq] at hbb;obtain ⟨⟨rfl,rfl,-⟩,-⟩:=hbb;have hrc:∀ q c,row[q]? = some c → cg [row] 0 q = some c:=fun q c hq=>by unfold cg; simpa using hq
 have hlq:∀ q c,row[q]? = some c → look cn.xs (p2 ++ [(0,q)]) = some c:=fun q c hq=>(gx hpn).2 ⟨_,_,_,hlk,hrc q c hq⟩
 have hnat:∀ i,i < te.size → ((List.range te.size).map fun i=>val (s2,0) (p2 ++ [(0,i)]))[i]? = some (val (s2,0) (p2 ++ [(0,i)])):=fun i hi=>by
  rw [List.getElem?_map,List.getElem?_range hi]; rfl
 have hcur:∀ i,i < te.size → cur[o' + i]? = some (val (s2,0) (p2 ++ [(0,i)])):=fun i hi=>by
  have:=h4 0 i row[i] (hrc i _ (List.getElem?_eq_getElem (by omega)));rwa [Nat.zero_mul,Nat.zero_add] at this
 obtain ⟨v',w',g1,g2⟩:=Cs (P:=P) (rows2:=[List.replicate te.size .hole]) (ty:=ty) (A:=some ⟨b',o',none⟩) (cc:=cap) (news:=(List.range te.size).map fun i=>val (s2,0) (p2 ++ [(0,i)])) h hti hel0 hte hd hc
  (fun r hr=>by simp at hr; subst hr; simp) (fun r hr c hc'=>by simp at hr; subst hr; rw [List.eq_of_mem_replicate hc']; rfl) (by simp) (fun j q c hjq=>by
    obtain ⟨r,k1,k2⟩:=bi.1 hjq
    cases j with
    | succ j=>simp at k1
    | zero =>
     simp at k1;subst k1;have hq:q < te.size:=by have:=(List.getElem?_eq_some_iff.1 k2).1; simpa using this
     rw [List.getElem?_replicate,if_pos hq] at k2;cases k2
     exact ⟨_,by rw [Nat.zero_mul,Nat.zero_add]; exact hnat q hq,.hole _⟩) (fun u hu=>by
    obtain ⟨i,hi,rfl⟩:=List.mem_map.1 hu;have hi:i < te.size:=by simpa using hi
    have hri:i < row.length:=by omega
    exact (n6 (h.mem.node _ _ _ _ hcn (hlq i _ (List.getElem?_eq_getElem hri))) (List.all_eq_true.1 hone _ (List.getElem_mem hri))).1) (fun _=>⟨_,rfl,fun i u hi=>by
    have hlt:i < te.size:=by have:=(List.getElem?_eq_some_iff.1 hi).1; simpa using this
    rw [hnat i hlt] at hi;cases hi;rw [jn,cell_of_row w b' _ cur tt (0,0) h2]
    exact hcur i hlt⟩) (by simpa using hl)
 have hsk:(s2,0) ≠ (d,0):=fun hh=>hsd (by simpa using hh.symm)
 obtain ⟨val3,g3⟩:=l7 (s:=s2) (r:=d) (Ne.symm hsd) (p1:=p2 ++ [(0,0)]) (by simp) (p2:=[(0,0)] ++ [(rows.length,0)]) (by simp) row 0 _ _ cn ⟨none,[.sl true el te.size (rows ++ [List.replicate te.size .hole])]⟩ g2 (by simp [Env.set,Ne.symm hsd,hcn]) (by simp [Env.set,oneCon]) fun m c hm=>by
  have hml:m < te.size:=by have:=(List.getElem?_eq_some_iff.1 hm).1; omega
  rw [Nat.zero_add,c9,c9,Nat.zero_add];refine ⟨hlq m c hm,?_,?_⟩
  ·refine (gx (by simp)).2 ⟨el,te.size,rows ++ [List.replicate te.size .hole],by rw [dv]; rfl,?_⟩;rw [uf (Nat.le_refl _),Nat.sub_self];unfold cg;simp [hml]
  ·show eg val d rows.length te.size v' _ (d,0) ((0,0) :: (rows.length,m) :: []) = eg val d rows.length te.size v' _ (s2,0) _;unfold eg;rw [if_pos rfl,if_neg hsk];simp only [if_neg (Nat.lt_irrefl _),Nat.sub_self,Nat.zero_mul,Nat.zero_add,hnat m hml,Option.getD_some]
 rw [hvs];refine ⟨v',w',val3,by simpa using g1,?_⟩;rw [j6];exact g3
theorem r9 {d:Nat} {u v:Value}:(a.put (some d) u).put (some d) v = a.put (some d) v:=by
 simp [Act.put]
theorem Hg {s:TypeId} {x y:Operand} (ho:o.op = .call { callee:=.builtin .append,args:=#[x,y],argTypes:=#[s,s] }):fh P nn o (py P nn o.dst s x y):=by
 intro ct t e K w0 a w Qx _ hn hq ⟨val,S,hs⟩;unfold py at hq
 have hex:∀ v' w',(Builtin.append_ #[s,s] o.type #[a.eval x,a.eval y]).run P w = .ok v' w' → (execOp a.eval o).run P w = .ok (.value v') w':=fun v' w' hr=>by
  unfold execOp;simp [ho,resolve,invoke,builtin,hr,Result.andThen]
 split at hq
 ·exact hq.elim
 ·rename_i ti hti
  split at hq
  ·exact hq.elim
  ·rename_i el hel0
   split at hq
   ·exact hq.elim
   ·rename_i te hte
    have hpos2:0 < te.size:=by obtain ⟨i2,u2,z2,hi2,hu2,hz2,hsz2,hby2,hzz2,hzs2,hz12,hag2,hel2,hfi2,hone2,hpos2⟩:=bl hte; exact hpos2
    split at hq
    ·exact hq.elim
    ·rename_i dd hdd
     obtain ⟨av,h1,h2,h2x⟩:=de hq hs;obtain ⟨av2,h3,h4,-⟩:=de h1 hs;split at h3
     ·have hx:a.eval x = .slice none 0 0:=fp (h2 rfl 0)
      rcases H9 hpos2 hs h4 h3 with ⟨rows2,h5,hsrc⟩ | ⟨s2,p2,row,h5,hB⟩
      rotate_left
      ·split at h5
       ·rename_i hh
        obtain ⟨hds,hby,hdn⟩:=hh;obtain ⟨val1,hs1,hv1,hvk⟩:=hs.nilOwn (d:=dd) (ty:=el) (k:=te.size) (by omega) hpos2;obtain ⟨v',w',val',h6,h7⟩:=E8 (P:=P) (ty:=o.type) (rows:=[]) hs1 hti hel0 hte (by show dd < e.n; omega) (by simp [Env.set,oneCon]) hds (hB.keep (by simp [Env.set,Ne.symm hds]) (hvk _ (Ne.symm hds))) ⟨by simp,hby⟩;rw [hv1,← hx] at h6;refine dm (hex _ _ h6) ⟨_,h5.2,?_⟩;rw [hdd,← r9 (u:=.slice none 0 0),fv];exact ⟨_,_,h7⟩
       ·exact h5.elim
      split at h5
      ·rename_i hl
       obtain ⟨d,hd,hdn,hK⟩:=fl h5;cases hd;obtain ⟨val1,hs1,hv1,hvk⟩:=hs.nilOwn (d:=dd) (ty:=el) (k:=te.size) (by omega) hpos2;obtain ⟨k1,k2,A,cc,news,k3,k4,k5,k6,k7⟩:=hsrc;obtain ⟨v',w',h6,h7⟩:=Cs (P:=P) (ty:=o.type) (A:=A) (cc:=cc) hs1 hti hel0 hte (by show dd < e.n; omega) (by simp [Env.set,oneCon]) k1 k2 k4 k5 k6 k7 (rows:=[]) (by simpa using hl);rw [hv1,← hx,← k3] at h6;refine dm (hex _ _ h6) ⟨_,hK,?_⟩;rw [hdd,← r9 (u:=.slice none 0 0)];exact ⟨_,_,h7⟩
      ·exact h5.elim
     ·rename_i r g p ag m
      split at h3
      ·rename_i hh
       obtain ⟨rfl,rfl,hdr⟩:=hh;have h3:=h3.2;dsimp only at h3;split at h3
       ·rename_i c tt k rows hsub
        split at h3
        ·rename_i hh
         obtain ⟨rfl,rfl⟩:=hh
         rcases H9 hpos2 hs h4 h3 with ⟨rows2,h5,hsrc⟩ | ⟨s2,p2,row,h5,hB⟩
         rotate_left
         ·split at h5
          ·rename_i hh
           obtain ⟨hds,hrs,hl,hby,hdn⟩:=hh;obtain ⟨hf,cn,hcn,hlk⟩:=ls hsub;have hpn:=eh hlk
           have hx:=(h2 rfl 0).2 fun i hi=>by
            have:i = 0:=by omega
            subst this;rw [b8]; exact hf
           have hx:=hx.2
           have hs1:=hs.take (d:=dd) (cs:=[.sl true tt te.size rows]) (ag:=false) (v:=a.eval x) (g:=g) hpn hdr (by omega) hcn (fun i c hi=>by
            cases i with
            | zero=>cases hi; rw [b8]; exact hlk
            | succ i=>simp at hi) (fun i hi=>by
            have:i = 0:=by simpa using hi
            subst this
            rw [b8]; exact hf) (fun s=>h2 rfl s) (fun _=>rfl)
           have hkr:((s2,0):bh) ≠ (r,0):=fun hh=>hrs (by simpa using hh.symm)
           obtain ⟨v',w',val',h6,h7⟩:=E8 (P:=P) (ty:=o.type) hs1 hti hel0 hte (by show dd < (e.holes r p 1).n; rw [ms]; omega) (by simp [Env.set,oneCon]) hds (hB.keep (by
            show (if s2 = dd then _ else (e.holes r p 1).con (s2,0)) = _
            rw [if_neg (Ne.symm hds),oh,ke hkr]) (by
            funext path;unfold dx
            rw [if_neg fun hh=>hds (by simpa using hh.symm)])) ⟨hl,hby⟩
           have hv1:dx val r p dd (dd,0) [(0,0)] = a.eval x:=by
            unfold dx;rw [if_pos rfl];show val (r,0) (a6 p 0 ++ []) = _;rw [List.append_nil,b8,hx]
           rw [hv1] at h6;refine dm (hex _ _ h6) ⟨_,h5.2,?_⟩;rw [hdd,← r9 (u:=a.eval x),fv,fv,gh];exact ⟨_,_,h7⟩
          ·exact h5.elim
         split at h5
         ·rename_i hl
          obtain ⟨d,hd,hdn,hK⟩:=fl h5;cases hd;obtain ⟨hf,cn,hcn,hlk⟩:=ls hsub;have hpn:=eh hlk
          have hx:=(h2 rfl 0).2 fun i hi=>by
           have:i = 0:=by omega
           subst this;rw [b8]; exact hf
          have hx:=hx.2
          have hs1:=hs.take (d:=dd) (cs:=[.sl true tt te.size rows]) (ag:=false) (v:=a.eval x) (g:=g) hpn hdr (by omega) hcn (fun i c hi=>by
           cases i with
           | zero=>cases hi; rw [b8]; exact hlk
           | succ i=>simp at hi) (fun i hi=>by
           have:i = 0:=by simpa using hi
           subst this
           rw [b8]; exact hf) (fun s=>h2 rfl s) (fun _=>rfl)
          obtain ⟨k1,k2,A,cc,news,k3,k4,k5,k6,k7⟩:=hsrc;obtain ⟨v',w',h6,h7⟩:=Cs (P:=P) (ty:=o.type) (A:=A) (cc:=cc) hs1 hti hel0 hte (by show dd < (e.holes r p 1).n; rw [ms]; omega) (by simp [Env.set,oneCon]) k1 k2 k4 k5 k6 k7 hl
          have hv1:dx val r p dd (dd,0) [(0,0)] = a.eval x:=by
           unfold dx;rw [if_pos rfl];show val (r,0) (a6 p 0 ++ []) = _;rw [List.append_nil,b8,hx]
          rw [hv1,← k3] at h6;refine dm (hex _ _ h6) ⟨_,hK,?_⟩;rw [hdd,← r9 (u:=a.eval x),fv,gh];exact ⟨_,_,h7⟩
         ·exact h5.elim
        ·exact h3.elim
       ·exact h3.elim
      ·exact h3.elim
     ·exact h3.elim
end
end
end Go.Proofs.YtfknckinfcicbaaGreat

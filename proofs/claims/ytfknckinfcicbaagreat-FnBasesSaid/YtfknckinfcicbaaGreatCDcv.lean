/- Contracts of earlier walks as contracts on data: numbers and networks of a function's own; and back. -/
import Derived.Test.YtfknckinfcicbaaGreatCJn19
import Derived.Test.YtfknckinfcicbaaGreatCJn9
set_option linter.unusedSimpArgs false
set_option linter.unusedVariables false
namespace Go.Proofs.YtfknckinfcicbaaGreat
open Go Go.RowKit
theorem F3 {xs:List Int} {j q:Nat} {c:C} (h:cg (xs.map iC) j q = some c):q = 0 ∧ j < xs.length ∧ c = .p (.int .i64 (gi xs j)):=by
 obtain ⟨r,h1,h2⟩:=bi.1 h;rw [List.getElem?_map] at h1
 cases hj:xs[j]? with
 | none=>rw [hj] at h1; cases h1
 | some x =>
  rw [hj] at h1;cases h1;have hl:=(List.getElem?_eq_some_iff.1 hj)
  cases q with
  | zero =>
   simp [iC] at h2;refine ⟨rfl,hl.1,?_⟩;rw [bt hl.1,← h2,hl.2]
  | succ q=>simp [iC] at h2
theorem Nc {xs:List (Int × Int)} {j q:Nat} {c:C} (h:cg (xs.map eC) j q = some c):j < xs.length ∧ ((q = 0 ∧ c = .p (.int .i64 (gp xs j).1)) ∨ (q = 1 ∧ c = .p (.int .i64 (gp xs j).2))):=by
 obtain ⟨r,h1,h2⟩:=bi.1 h;rw [List.getElem?_map] at h1
 cases hj:xs[j]? with
 | none=>rw [hj] at h1; cases h1
 | some x =>
  rw [hj] at h1;cases h1;have hl:=(List.getElem?_eq_some_iff.1 hj);refine ⟨hl.1,?_⟩
  match q with
  | 0=>simp [eC] at h2; exact .inl ⟨rfl,by rw [gb hl.1,← h2,hl.2]⟩
  | 1=>simp [eC] at h2; exact .inr ⟨rfl,by rw [gb hl.1,← h2,hl.2]⟩
  | q + 2=>simp [eC] at h2
theorem OwnI.slOk {w:World} {B:Nat} {v:Value} {xs:List Int} (h:OwnI w B v xs) {va:aj → Value} {p:aj} (h0:va p = v) (h1:∀ j,j < xs.length → va (p ++ [(j,0)]) = .int .i64 (gi xs j)):SlOk w va p 3 1 (xs.map iC):=by
 obtain ⟨hl,ho⟩:=h;refine ⟨Nat.one_pos,fun r hr=>by obtain ⟨x,-,rfl⟩:=List.mem_map.1 hr; rfl,?_⟩
 rcases ho with ⟨rfl,hn⟩ | ⟨g,cap,cur,rfl,-,hg,hn,hm,hs,ht⟩
 ·exact .inl ⟨by have:=List.eq_nil_of_length_eq_zero hn; rw [this]; rfl,h0⟩
 ·refine .inr ⟨g,0,cap,cur,by rw [h0,List.length_map],hg,by rw [List.length_map]; exact hn,hm,by rw [Nat.zero_add]; exact Nat.le_of_eq hs.symm,fun j q c hc=>?_⟩;rw [Nat.zero_add];obtain ⟨rfl,hj,rfl⟩:=F3 hc;rw [h1 j hj];have h2:(ic xs)[j]? = some (.int .i64 (gi xs j)):=yw hj;rw [← ht,List.getElem?_take] at h2;split at h2
  ·rw [Nat.mul_one,Nat.add_zero]; rwa [Array.getElem?_toList] at h2
  ·cases h2
theorem OwnE.slOk {w:World} {B:Nat} {v:Value} {xs:List (Int × Int)} (h:OwnE w B v xs) {va:aj → Value} {p:aj} (h0:va p = v) (h1:∀ j,j < xs.length → va (p ++ [(j,0)]) = .int .i64 (gp xs j).1 ∧ va (p ++ [(j,1)]) = .int .i64 (gp xs j).2):SlOk w va p 97 2 (xs.map eC):=by
 have hat:=fun (A:Option Addr) (c:Nat)=>h;obtain ⟨hl,ho⟩:=h;refine ⟨by decide,fun r hr=>by obtain ⟨x,-,rfl⟩:=List.mem_map.1 hr; rfl,?_⟩
 rcases ho with ⟨rfl,hn⟩ | ⟨g,cap,cur,rfl,-,hg,hn,hm,hs,ht⟩
 ·exact .inl ⟨by have:=List.eq_nil_of_length_eq_zero hn; rw [this]; rfl,h0⟩
 ·refine .inr ⟨g,0,cap,cur,by rw [h0,List.length_map],hg,by rw [List.length_map]; exact hn,hm,by rw [Nat.zero_add]; exact Nat.le_of_eq hs.symm,fun j q c hc=>?_⟩;rw [Nat.zero_add];obtain ⟨hj,hq⟩:=Nc hc;obtain ⟨g1,g2⟩:=Lb hj
  rcases hq with ⟨rfl,rfl⟩ | ⟨rfl,rfl⟩
  ·rw [(h1 j hj).1,Nat.add_zero];rw [← ht,List.getElem?_take] at g1;split at g1
   ·rwa [Array.getElem?_toList] at g1
   ·cases g1
  ·rw [(h1 j hj).2];rw [← ht,List.getElem?_take] at g2;split at g2
   ·rwa [Array.getElem?_toList] at g2
   ·cases g2
theorem SlOk.cells {w:World} {va:aj → Value} {p:aj} {t k:Nat} {rows:List (List C)} (h:SlOk w va p t k rows) {b n cap:Nat} {o:Nat} (hv:va p = .slice (some ⟨b,o,none⟩) n cap):∃ cur,w.heap[b]? = some (.cells cur t (0,0)):=by
 obtain ⟨-,-,⟨-,h1⟩ | ⟨b',o',cap',cur,h1,h2,-⟩⟩:=h
 ·rw [hv] at h1; cases h1
 ·rw [hv] at h1; cases h1; exact ⟨cur,h2⟩
theorem Ir {w':World} {B:Nat} {v:Value} {xs:List Int} (ho:OwnI w' B v xs):∃ val,MemOk w' (resCon [.own false [.sl true 3 1 (xs.map iC)]]) val (fun _=>False) ∧ (∀ b key p,OwnB (resCon [.own false [.sl true 3 1 (xs.map iC)]]) val b key p → B ≤ b) ∧ SV { gr with con:=resCon [.own false [.sl true 3 1 (xs.map iC)]] } w' val (fun _=>False) 0 (resAV [.own false [.sl true 3 1 (xs.map iC)]]) v:=by
 have hcon:∀ key cn,resCon [.own false [.sl true 3 1 (xs.map iC)]] key = some cn → key = (0,0) ∧ cn = ⟨none,[.sl true 3 1 (xs.map iC)]⟩:=fun key cn hk=>by
  obtain ⟨k1,k2⟩:=key;unfold resCon at hk;dsimp only at hk;split at hk
  ·rename_i h3
   split at hk
   ·rename_i h4; subst h3 h4; cases hk; exact ⟨rfl,rfl⟩
   ·cases hk
  ·cases hk
 have hsl:SlOk w' (fun p=>match p with | [(0,0)]=>v | [(0,0),(j,0)]=>.int .i64 (gi xs j) | _=>undef) [(0,0)] 3 1 (xs.map iC):=ho.slOk rfl fun j _=>rfl
 have hlk:∀ p c,look [C.sl true 3 1 (xs.map iC)] p = some c → (p = [(0,0)] ∧ c = .sl true 3 1 (xs.map iC)) ∨ ∃ j,p = [(0,0),(j,0)] ∧ c = .p (.int .i64 (gi xs j)):=fun p c hp=>by
  match p with
  | []=>cases hp
  | (0,0) :: z =>
   unfold look at hp;simp only [List.getElem?_cons_zero,Option.bind_some] at hp
   match z with
   | []=>rw [da] at hp; cases hp; exact .inl ⟨rfl,rfl⟩
   | (j,q) :: z =>
    rw [d7] at hp
    cases hr:cg (xs.map iC) j q with
    | none=>rw [hr] at hp; cases hp
    | some c0 =>
     rw [hr] at hp;obtain ⟨rfl,hj,rfl⟩:=F3 hr;obtain ⟨rfl,rfl⟩:=C.flat_at rfl hp;exact .inr ⟨j,rfl,rfl⟩
  | (0,q + 1) :: z=>unfold look at hp; simp at hp
  | (j + 1,q) :: z=>unfold look at hp; simp at hp
 have hown:∀ b key p,OwnB (resCon [.own false [.sl true 3 1 (xs.map iC)]]) (fun _ p=>match p with | [(0,0)]=>v | [(0,0),(j,0)]=>.int .i64 (gi xs j) | _=>undef) b key p → key = (0,0) ∧ p = [(0,0)] ∧ v.ownBlock = some b:=fun b key p ho=>by
  rcases ho with ⟨-,⟨t',xs',h1⟩,-⟩ | ⟨cn,t',k',rows',n',cap',h1,h2,h3⟩
  ·obtain ⟨-,h2⟩:=hcon _ _ h1; cases h2
  ·obtain ⟨rfl,rfl⟩:=hcon _ _ h1
   rcases hlk p _ h2 with ⟨rfl,-⟩ | ⟨j,rfl,h4⟩
   ·obtain ⟨o,h3⟩:=h3;exact ⟨rfl,rfl,by rw [show v = _ from h3]; rfl⟩
   ·cases h4
 refine ⟨fun _ p=>match p with | [(0,0)]=>v | [(0,0),(j,0)]=>.int .i64 (gi xs j) | _=>undef,⟨fun key cn p c hc hl=>?_,fun key t xs' hc=>?_,fun b key p key' p' k1 k2=>?_,fun b hb=>hb.elim⟩,fun b key p k1=>?_,⟨⟨_,rfl⟩,rfl,rfl⟩⟩
 ·obtain ⟨rfl,rfl⟩:=hcon _ _ hc
  rcases hlk p c hl with ⟨rfl,rfl⟩ | ⟨j,rfl,rfl⟩
  ·exact hsl
  ·exact rfl
 ·obtain ⟨-,h2⟩:=hcon _ _ hc; cases h2
 ·obtain ⟨rfl,rfl,-⟩:=hown _ _ _ k1;obtain ⟨rfl,rfl,-⟩:=hown _ _ _ k2;exact ⟨rfl,rfl⟩
 ·obtain ⟨-,-,k2⟩:=hown _ _ _ k1;exact (ho.blk b k2).1
theorem C5 {P:Program} {f:FuncId} {ags:List Arg} {xs:List Int} (h:∀ w (vs:Array Value),vs.size = ags.length → (∀ (i:Nat) (x:Arg),ags[i]? = some x → ∃ u,vs[i]? = some u ∧ fi w x u) → Calls P f vs w (Vs w xs)):DCalls P f ags (fun r=>r = [.own false [.sl true 3 1 (xs.map iC)]]):=fun w vs h1 h2=>by
 refine (h w vs h1 h2).mono ?_;rintro e w' ⟨v,rfl,ho,hb⟩;obtain ⟨val,g1,g2,g3⟩:=Ir ho;exact ⟨_,v,val,fun _=>False,rfl,rfl,hb,g1,g2,fun b hb=>hb.elim,g3⟩
theorem O3 {t:TypeId} {xs:List Int} {z:aj} {c:C} (h:(C.sl true t 1 (xs.map iC)).at z = some c):(z = [] ∧ c = .sl true t 1 (xs.map iC)) ∨ ∃ j,z = [(j,0)] ∧ j < xs.length ∧ c = .p (.int .i64 (gi xs j)):=by
 match z with
 | []=>rw [da] at h; cases h; exact .inl ⟨rfl,rfl⟩
 | (j,q) :: z =>
  rw [d7] at h
  cases hr:cg (xs.map iC) j q with
  | none=>rw [hr] at h; cases h
  | some c0 =>
   rw [hr] at h;obtain ⟨rfl,hj,rfl⟩:=F3 hr;obtain ⟨rfl,rfl⟩:=C.flat_at rfl h;exact .inr ⟨j,rfl,hj,rfl⟩
theorem X2 {t:TypeId} {xs:List (Int × Int)} {z:aj} {c:C} (h:(C.sl true t 2 (xs.map eC)).at z = some c):(z = [] ∧ c = .sl true t 2 (xs.map eC)) ∨ ∃ j,j < xs.length ∧ ((z = [(j,0)] ∧ c = .p (.int .i64 (gp xs j).1)) ∨ (z = [(j,1)] ∧ c = .p (.int .i64 (gp xs j).2))):=by
 match z with
 | []=>rw [da] at h; cases h; exact .inl ⟨rfl,rfl⟩
 | (j,q) :: z =>
  rw [d7] at h
  cases hr:cg (xs.map eC) j q with
  | none=>rw [hr] at h; cases h
  | some c0 =>
   rw [hr] at h;obtain ⟨hj,hq⟩:=Nc hr
   rcases hq with ⟨rfl,rfl⟩ | ⟨rfl,rfl⟩
   ·obtain ⟨rfl,rfl⟩:=C.flat_at rfl h;exact .inr ⟨j,hj,.inl ⟨rfl,rfl⟩⟩
   ·obtain ⟨rfl,rfl⟩:=C.flat_at rfl h;exact .inr ⟨j,hj,.inr ⟨rfl,rfl⟩⟩
def esC (t2:TypeId) (es:List (Int × Int)):List C:=[.sl true t2 2 (es.map eC)]
theorem Ih {t2:TypeId} {ess:List (List (Int × Int))} {j q:Nat} {c:C} (h:cg (ess.map (esC t2)) j q = some c):q = 0 ∧ j < ess.length ∧ c = .sl true t2 2 ((gl ess j).map eC):=by
 obtain ⟨r,h1,h2⟩:=bi.1 h;rw [List.getElem?_map] at h1
 cases hj:ess[j]? with
 | none=>rw [hj] at h1; cases h1
 | some x =>
  rw [hj] at h1;cases h1;have hl:=(List.getElem?_eq_some_iff.1 hj)
  cases q with
  | zero =>
   simp [esC] at h2;refine ⟨rfl,hl.1,?_⟩;rw [jg hl.1,← h2,hl.2]
  | succ q=>simp [esC] at h2
theorem Vi {t t2:TypeId} {ess:List (List (Int × Int))} {z:aj} {c:C} (h:(C.sl true t 1 (ess.map (esC t2))).at z = some c):(z = [] ∧ c = .sl true t 1 (ess.map (esC t2))) ∨ ∃ j z',z = (j,0) :: z' ∧ j < ess.length ∧ (C.sl true t2 2 ((gl ess j).map eC)).at z' = some c:=by
 match z with
 | []=>rw [da] at h; cases h; exact .inl ⟨rfl,rfl⟩
 | (j,q) :: z =>
  rw [d7] at h
  cases hr:cg (ess.map (esC t2)) j q with
  | none=>rw [hr] at h; cases h
  | some c0 =>
   rw [hr] at h;obtain ⟨rfl,hj,rfl⟩:=Ih hr;exact .inr ⟨j,z,rfl,hj,h⟩
def netO (N:Net):List C:=[.sl true 95 1 (N.ends.map (esC 97)),.sl true 3 1 (N.ids.map iC),.sl true 3 1 (N.inputs.map iC)]
def Lf (ve vi vn:Value) (us:Nat → Value) (N:Net):aj → Value
 | [(0,0)]=>ve
 | [(0,1)]=>vi
 | [(0,2)]=>vn
 | [(0,0),(j,0)]=>us j
 | [(0,0),(j,0),(i,0)]=>.int .i64 (gp (gl N.ends j) i).1
 | [(0,0),(j,0),(i,1)]=>.int .i64 (gp (gl N.ends j) i).2
 | [(0,1),(j,0)]=>.int .i64 (gi N.ids j)
 | [(0,2),(j,0)]=>.int .i64 (gi N.inputs j)
 | _=>undef
theorem Eu {N:Net} {p:aj} {c:C} (h:look (netO N) p = some c) :
 (p = [(0,0)] ∧ c = .sl true 95 1 (N.ends.map (esC 97))) ∨ (p = [(0,1)] ∧ c = .sl true 3 1 (N.ids.map iC)) ∨ (p = [(0,2)] ∧ c = .sl true 3 1 (N.inputs.map iC)) ∨
 (∃ j,p = [(0,0),(j,0)] ∧ j < N.ends.length ∧ c = .sl true 97 2 ((gl N.ends j).map eC)) ∨ (∃ v,c = .p v ∧ ∀ ve vi vn us,Lf ve vi vn us N p = v):=by
 match p with
 | []=>cases h
 | (j0 + 1,q) :: z=>unfold look at h; simp at h
 | (0,0) :: z =>
  unfold look at h;simp only [netO,List.getElem?_cons_zero,Option.bind_some] at h
  rcases Vi h with ⟨rfl,rfl⟩ | ⟨j,z',rfl,hj,h2⟩
  ·exact .inl ⟨rfl,rfl⟩
  ·rcases X2 h2 with ⟨rfl,rfl⟩ | ⟨i,hi,⟨rfl,rfl⟩ | ⟨rfl,rfl⟩⟩
   ·exact .inr (.inr (.inr (.inl ⟨j,rfl,hj,rfl⟩)))
   ·exact .inr (.inr (.inr (.inr ⟨_,rfl,fun _ _ _ _=>rfl⟩)))
   ·exact .inr (.inr (.inr (.inr ⟨_,rfl,fun _ _ _ _=>rfl⟩)))
 | (0,1) :: z =>
  unfold look at h;simp only [netO,List.getElem?_cons_succ,List.getElem?_cons_zero,Option.bind_some] at h
  rcases O3 h with ⟨rfl,rfl⟩ | ⟨j,rfl,hj,rfl⟩
  ·exact .inr (.inl ⟨rfl,rfl⟩)
  ·exact .inr (.inr (.inr (.inr ⟨_,rfl,fun _ _ _ _=>rfl⟩)))
 | (0,2) :: z =>
  unfold look at h;simp only [netO,List.getElem?_cons_succ,List.getElem?_cons_zero,Option.bind_some] at h
  rcases O3 h with ⟨rfl,rfl⟩ | ⟨j,rfl,hj,rfl⟩
  ·exact .inr (.inr (.inl ⟨rfl,rfl⟩))
  ·exact .inr (.inr (.inr (.inr ⟨_,rfl,fun _ _ _ _=>rfl⟩)))
 | (0,q + 3) :: z=>unfold look at h; simp [netO] at h
theorem P5 {w':World} {B:Nat} {v:Value} {N:Net} (ho:Vv w' B v N):∃ val,MemOk w' (resCon [.own true (netO N)]) val (fun _=>False) ∧ (∀ b key p,OwnB (resCon [.own true (netO N)]) val b key p → B ≤ b) ∧ SV { gr with con:=resCon [.own true (netO N)] } w' val (fun _=>False) 0 (resAV [.own true (netO N)]) v:=by
 obtain ⟨ve,vi,vn,rfl,⟨us,he,heu,hea⟩,hi,hn,hap⟩:=ho
 have hcon:∀ key cn,resCon [.own true (netO N)] key = some cn → key = (0,0) ∧ cn = ⟨none,netO N⟩:=fun key cn hk=>by
  obtain ⟨k1,k2⟩:=key;unfold resCon at hk;dsimp only at hk;split at hk
  ·rename_i h3
   split at hk
   ·rename_i h4; subst h3 h4; cases hk; exact ⟨rfl,rfl⟩
   ·cases hk
  ·cases hk
 have s0:SlOk w' (Lf ve vi vn us N) [(0,0)] 95 1 (N.ends.map (esC 97)):=by
  obtain ⟨hl,ho⟩:=he;refine ⟨Nat.one_pos,fun r hr=>by obtain ⟨x,-,rfl⟩:=List.mem_map.1 hr; rfl,?_⟩
  rcases ho with ⟨rfl,hn0⟩ | ⟨g,cap,cur,rfl,-,hg,hn0,hm,hs,ht⟩
  ·exact .inl ⟨by have:=List.eq_nil_of_length_eq_zero hn0; rw [this]; rfl,rfl⟩
  ·refine .inr ⟨g,0,cap,cur,by rw [List.length_map]; rfl,hg,by rw [List.length_map]; exact hn0,hm,by rw [Nat.zero_add]; exact Nat.le_of_eq hs.symm,fun j q c hc=>?_⟩;rw [Nat.zero_add];obtain ⟨rfl,hj,rfl⟩:=Ih hc;have h3:((List.range N.ends.length).map us)[j]? = some (us j):=by rw [List.getElem?_map,List.getElem?_range hj]; rfl
   rw [← ht,List.getElem?_take] at h3;split at h3
   ·rw [Nat.mul_one,Nat.add_zero]; rwa [Array.getElem?_toList] at h3
   ·cases h3
 have s1:SlOk w' (Lf ve vi vn us N) [(0,1)] 3 1 (N.ids.map iC):=hi.slOk rfl fun j _=>rfl;have s2:SlOk w' (Lf ve vi vn us N) [(0,2)] 3 1 (N.inputs.map iC):=hn.slOk rfl fun j _=>rfl;have s3:∀ j,j < N.ends.length → SlOk w' (Lf ve vi vn us N) [(0,0),(j,0)] 97 2 ((gl N.ends j).map eC):=fun j hj=>(heu j hj).slOk rfl fun i _=>⟨rfl,rfl⟩
 have hown:∀ b key p,OwnB (resCon [.own true (netO N)]) (fun _=>Lf ve vi vn us N) b key p → key = (0,0) ∧ ((p = [(0,0)] ∧ ve.ownBlock = some b ∧ ∃ cur,w'.heap[b]? = some (.cells cur 95 (0,0))) ∨ (p = [(0,1)] ∧ vi.ownBlock = some b ∧ ∃ cur,w'.heap[b]? = some (.cells cur 3 (0,0))) ∨
  (p = [(0,2)] ∧ vn.ownBlock = some b ∧ ∃ cur,w'.heap[b]? = some (.cells cur 3 (0,0))) ∨ ∃ j,p = [(0,0),(j,0)] ∧ j < N.ends.length ∧ (us j).ownBlock = some b ∧ ∃ cur,w'.heap[b]? = some (.cells cur 97 (0,0))):=fun b key p ho=>by
  rcases ho with ⟨-,⟨t',xs',h1⟩,-⟩ | ⟨cn,t',k',rows',n',cap',h1,h2,o,h3⟩
  ·obtain ⟨-,h2⟩:=hcon _ _ h1; cases h2
  ·obtain ⟨rfl,rfl⟩:=hcon _ _ h1;refine ⟨rfl,?_⟩
   rcases Eu h2 with ⟨rfl,-⟩ | ⟨rfl,-⟩ | ⟨rfl,-⟩ | ⟨j,rfl,hj,-⟩ | ⟨v,h4,-⟩
   ·exact .inl ⟨rfl,by rw [show ve = _ from h3]; rfl,s0.cells h3⟩
   ·exact .inr (.inl ⟨rfl,by rw [show vi = _ from h3]; rfl,s1.cells h3⟩)
   ·exact .inr (.inr (.inl ⟨rfl,by rw [show vn = _ from h3]; rfl,s2.cells h3⟩))
   ·exact .inr (.inr (.inr ⟨j,rfl,hj,by rw [show us j = _ from h3]; rfl,(s3 j hj).cells h3⟩))
   ·cases h4
 have ty:∀ {b:Nat} {c1 c2:Array Value} {t1 t2:TypeId},w'.heap[b]? = some (.cells c1 t1 (0,0)) → w'.heap[b]? = some (.cells c2 t2 (0,0)) → t1 = t2:=fun h1 h2=>by rw [h1] at h2; cases h2; rfl
 refine ⟨fun _=>Lf ve vi vn us N,⟨fun key cn p c hc hl=>?_,fun key t xs' hc=>?_,fun b key p key' p' k1 k2=>?_,fun b hb=>hb.elim⟩,fun b key p k1=>?_,⟨netO N,#[ve,vi,vn],rfl,rfl,rfl,rfl,fun i hi=>?_⟩⟩
 ·obtain ⟨rfl,rfl⟩:=hcon _ _ hc
  rcases Eu hl with ⟨rfl,rfl⟩ | ⟨rfl,rfl⟩ | ⟨rfl,rfl⟩ | ⟨j,rfl,hj,rfl⟩ | ⟨v,rfl,h4⟩
  ·exact s0
  ·exact s1
  ·exact s2
  ·exact s3 j hj
  ·exact h4 _ _ _ _
 ·obtain ⟨-,h2⟩:=hcon _ _ hc; cases h2
 ·obtain ⟨e1,m1⟩:=hown _ _ _ k1;obtain ⟨e2,m2⟩:=hown _ _ _ k2;refine ⟨e1.trans e2.symm,?_⟩;clear k1 k2
  rcases m1 with ⟨rfl,a1,c1,b1⟩ | ⟨rfl,a1,c1,b1⟩ | ⟨rfl,a1,c1,b1⟩ | ⟨j,rfl,hj,a1,c1,b1⟩ <;> rcases m2 with ⟨rfl,a2,c2,b2⟩ | ⟨rfl,a2,c2,b2⟩ | ⟨rfl,a2,c2,b2⟩ | ⟨j',rfl,hj',a2,c2,b2⟩
  all_goals first
   | rfl
   | exact absurd (ty b1 b2) (by decide)
   | exact (hap _ a1 a2).elim
   | exact (hap _ a2 a1).elim
   | skip
  by_cases hjj:j = j'
  ·rw [hjj]
  ·exact (hea j j' hj hj' hjj b a1 a2).elim
 ·obtain ⟨-,k2⟩:=hown _ _ _ k1
  rcases k2 with ⟨-,a1,-⟩ | ⟨-,a1,-⟩ | ⟨-,a1,-⟩ | ⟨j,-,hj,a1,-⟩
  ·exact (World.ownsRow.lt he b a1).1
  ·exact (hi.blk b a1).1
  ·exact (hn.blk b a1).1
  ·exact ((heu j hj).lt b a1).1
 ·match i with
  | 0=>rfl
  | 1=>rfl
  | 2=>rfl
  | i + 3=>have:i + 3 < 3:=hi; omega
theorem Fm {P:Program} {f:FuncId} {ags:List Arg} {N:Net} (h:∀ w (vs:Array Value),vs.size = ags.length → (∀ (i:Nat) (x:Arg),ags[i]? = some x → ∃ u,vs[i]? = some u ∧ fi w x u) → Calls P f vs w (fun e w'=>∃ v,e = .returned v ∧ Vv w' w.heap.size v N ∧ Below w.heap.size w w')):DCalls P f ags (fun r=>r = [.own true (netO N)]):=fun w vs h1 h2=>by
 refine (h w vs h1 h2).mono ?_;rintro e w' ⟨v,rfl,ho,hb⟩;obtain ⟨val,g1,g2,g3⟩:=P5 ho;exact ⟨_,v,val,fun _=>False,rfl,rfl,hb,g1,g2,fun b hb=>hb.elim,g3⟩
theorem ao (N:Net):∀ x ∈ netO N,x.owned:=fun x hx=>by
 simp only [netO,List.mem_cons,List.not_mem_nil,or_false] at hx
 rcases hx with rfl | rfl | rfl
 ·exact wv fun r hr c hc=>by
   obtain ⟨es,-,rfl⟩:=List.mem_map.1 hr;simp only [esC,List.mem_singleton] at hc;subst hc; exact Le _ _
 ·exact cq _ _
 ·exact cq _ _
end Go.Proofs.YtfknckinfcicbaaGreat

/- Parts of the proof. -/
import Derived.Test.YtfknckinfcicbaaGreatCJn1
import Derived.Laws.MakeOwn
set_option linter.unusedSimpArgs false
set_option linter.unusedVariables false
namespace Go.Proofs.YtfknckinfcicbaaGreat
section
open Go Go.RowKit
structure TI where
 agg:Bool
 size:Nat
 bytes:Nat
 zero:List Value
 elem:Option TypeId
 fields:List (Nat × TypeId)
def mw:TypeDesc → Bool
 | .struct _=>true
 | .array _ _=>true
 | _=>false
def ji:TypeDesc → Option TypeId
 | .slice e=>some e
 | _=>none
def ma:TypeDesc → List (Nat × TypeId)
 | .struct fs=>fs.toList.map fun f=>(f.offset,f.type)
 | _=>[]
def bp (P:Program) (t:TypeId):Option TI:=match P.info? t,P.underlying t with
 | some i,some u=>match i.zero with
  | some z=>if 0 < i.size ∧ z.cells.size = i.size ∧ z.cells.toList.all (·.oneCell') = true ∧ (mw u = true ∨ z.cells.size = 1) then some ⟨mw u,i.size,i.bytes,z.cells.toList,ji u,ma u⟩ else none
  | none=>none
 | _,_=>none
theorem bl {P:Program} {t:TypeId} {ti:TI} (h:bp P t = some ti):∃ i u z,P.info? t = some i ∧ P.underlying t = some u ∧ i.zero = some z ∧ i.size = ti.size ∧ i.bytes = ti.bytes ∧ z.cells.toList = ti.zero ∧ z.cells.size = i.size ∧ (∀ v ∈ ti.zero,v.oneCell' = true) ∧ mw u = ti.agg ∧ ji u = ti.elem ∧ ma u = ti.fields ∧ (ti.agg = true ∨ ti.size = 1) ∧ 0 < ti.size:=by
 unfold bp at h;split at h
 ·rename_i i u hi hu
  split at h
  ·rename_i z hz
   split at h
   ·rename_i hc
    cases h;refine ⟨i,u,z,hi,hu,hz,rfl,rfl,rfl,hc.2.1,fun v hv=>?_,rfl,rfl,rfl,hc.2.2.2.imp id fun h1=>by rw [← hc.2.1,h1],hc.1⟩;exact List.all_eq_true.1 hc.2.2.1 v hv
   ·cases h
  ·cases h
 ·cases h
section
variable {P:Program} {w:World}
theorem Ek {t:TypeId} {u:TypeDesc} (hu:P.underlying t = some u):(isAgg t).run P w = .ok (mw u) w:=by
 unfold isAgg;rw [Sem.run_bind,run_underlying hu];cases u <;> rfl
theorem o6 {t:TypeId} {i:TypeInfo} (hi:P.info? t = some i):(sizeOf t).run P w = .ok i.size w:=by
 simp [sizeOf,typeInfo,hi]
theorem Sr {t:TypeId} {i:TypeInfo} {z:Value} (hi:P.info? t = some i) (hz:i.zero = some z):(zeroValue t).run P w = .ok z w:=by
 simp [zeroValue,typeInfo,hi,hz]
theorem jn (b off i:Nat):(⟨b,off,none⟩:Addr).add i = ⟨b,off + i,none⟩:=by
 unfold Addr.add;split <;> simp_all
theorem iz {t:TypeId} {u:TypeDesc} {b off:Nat} {v:Value} (hu:P.underlying t = some u) (ha:mw u = false) (hc:w.cell? ⟨b,off,none⟩ = some v):(Instr.loadAt t (.pointer (some ⟨b,off,none⟩))).run P w = .ok v w:=by
 unfold Instr.loadAt Instr.sureAddr loadVar;simp only [Sem.run_bind,Sem.run_pure,Result.andThen_ok,Ek hu,ha,Bool.false_eq_true,if_false];simp [load,Sem.run,hc]
theorem mi {t:TypeId} {u:TypeDesc} {i:TypeInfo} {b off:Nat} {vs:Array Value} (hu:P.underlying t = some u) (ha:mw u = true) (hi:P.info? t = some i) (hs:i.size = vs.size) (hc:∀ j v,vs[j]? = some v → w.cell? ⟨b,off + j,none⟩ = some v):(Instr.loadAt t (.pointer (some ⟨b,off,none⟩))).run P w = .ok (.agg vs) w:=by
 unfold Instr.loadAt Instr.sureAddr loadVar;simp only [Sem.run_bind,Sem.run_pure,Result.andThen_ok,Ek hu,ha,if_true,o6 hi,hs]
 have:=run_loadCells_list (P:=P) (w:=w) ⟨b,off,none⟩ vs.toList fun j v hj=>by
  rw [jn]; exact hc j v (by simpa using hj)
 rw [show vs.toList.length = vs.size by simp] at this;rw [this];simp
end
def Hd.flat:Hd → Option C
 | .p v=>some (.p v)
 | .ro c=>some c
 | _=>none
def roAll:List Hd → Option (List C)
 | []=>some []
 | h :: hs=>match h.flat,roAll hs with
  | some c,some cs=>some (c :: cs)
  | _,_=>none
def pw (r g:Nat) (p:aj) (k:Nat):Nat → (List Hd → Q) → Q
 | 0,kk=>kk []
 | n + 1,kk=>pw r g p k n fun hs=>.cell r g (a6 p n) k fun h=>match h with
  | some h=>kk (hs ++ [h])
  | none=>.fail
def Cl (P:Program) (nn:Nat) (d:Option Nat) (t:TypeId) (x:Operand):Q:=match bp P t with
 | none=>.fail
 | some ti=>opd x fun av=>match av with
  | .ptr r g p k=>if ti.agg = true then (pw r g p k ti.size fun hs=>match roAll hs with
   | some xs=>ig nn d (.agg xs)
   | none=>ig nn d (.ref r g p true ti.size))
   else .cell r g p k fun h=>match h with
    | some (.p v)=>ig nn d (.c (.p v))
    | some (.ro c)=>ig nn d (.c c)
    | some (.own _ _ _)=>ig nn d (.ref r g p false 1)
    | _=>.fail
  | .rp xs=>if ti.agg = true then (if ti.size ≤ xs.length then ig nn d (.agg (xs.take ti.size)) else .fail)
   else match xs with
    | x :: _=>ig nn d (.c x)
    | []=>.fail
  | _=>.fail
section
variable {P:Program} {nn:Nat} {o:Oper} {ct:Cts} {t:Option Stat} {e:Env} {K:Env → Prop} {w0:Base} {a:Act} {w:World} {val:Val} {S:Nat → Prop} {Qx:Exit → Act → World → Prop}
theorem i4 {r g:Nat} {p:aj} (h:e.okB r g p = true):e.fresh r g p:=by
 unfold Env.okB at h;simp only [Bool.and_eq_true,beq_iff_eq,List.all_eq_true,Bool.not_eq_true'] at h;refine ⟨h.1,fun d hd hp=>?_⟩;have:=h.2 d hd;rw [List.isPrefixOf_iff_prefix.2 hp] at this;cases this
theorem zc (hs:StV w0 e a w val S) {r g k:Nat} {p:aj} {s:Nat} {v:Value} (hv:SV e w val S s (.ptr r g p k) v) {i:Nat} {h:Hd} (hc:e.cell r g (a6 p i) k = some h) :
 ∃ pp j q b o cn c,p = pp ++ [(j,q)] ∧ v = .pointer (some ⟨b,o + (j * k + q),none⟩) ∧ e.con (r,0) = some cn ∧ look cn.xs (pp ++ [(j,q + i)]) = some c ∧ c.hd = h ∧ Target e val r pp j (q + i) k b o cn ∧ a6 p i = pp ++ [(j,q + i)]:=by
 have hdl:∀ (hp:p ≠ []),(a6 p i).dropLast = p.dropLast:=fun hp=>by
  obtain ⟨pp,⟨j,q⟩,rfl⟩:=yi hp;rw [c9,List.dropLast_concat,List.dropLast_concat]
 have hpn:p ≠ []:=fun hp=>by
  subst hp;unfold Env.cell at hc;have:(a6 [] i).dropLast = []:=by unfold a6; split <;> rfl
  rw [this] at hc;split at hc
  ·rename_i hok
   obtain ⟨-,h2⟩:=hv;obtain ⟨p',j,q,b,o,he,-⟩:=h2 (i4 hok);simp at he
  ·cases hc
 unfold Env.cell at hc;rw [hdl hpn] at hc;split at hc
 ·rename_i hok
  obtain ⟨pp,j,q,b,o,rfl,h1,h2⟩:=hv.2 (i4 hok);rw [List.dropLast_concat] at hc;rw [c9] at hc ⊢
  have hlook:∀ {h},e.lookH r (pp ++ [(j,q + i)]) = some h → ∃ cn c,e.con (r,0) = some cn ∧ look cn.xs (pp ++ [(j,q + i)]) = some c ∧ c.hd = h:=fun {h} hl=>by
   unfold Env.lookH at hl;split at hl
   ·rename_i cn hcn
    cases hlk:look cn.xs (pp ++ [(j,q + i)]) with
    | none=>rw [hlk] at hl; cases hl
    | some c=>rw [hlk] at hl; simp only [Option.map_some,Option.some.injEq] at hl; exact ⟨cn,c,hcn,hlk,hl⟩
   ·cases hl
  split at hc
  ·split at hc
   ·rename_i hbx
    obtain ⟨cn,c,h3,h4,h5⟩:=hlook hc;refine ⟨[],j,q,b,o,cn,c,rfl,h1,h3,h4,h5,?_,rfl⟩
    rcases h2 with ⟨-,h6,h8,h7⟩ | ⟨hne,-⟩
    ·refine .inl ⟨rfl,h6,h8,h7,?_⟩;unfold Env.boxB at hbx;rw [h3] at hbx;exact Option.isSome_iff_exists.1 hbx
    ·exact absurd rfl hne
   ·cases hc
  ·rename_i hpp
   split at hc
   ·rename_i t' k' n' hl
    split at hc
    ·rename_i hkk
     subst hkk;obtain ⟨cn,c,h3,h4,h5⟩:=hlook hc;refine ⟨pp,j,q,b,o,cn,c,rfl,h1,h3,h4,h5,?_,rfl⟩
     rcases h2 with ⟨h6,-⟩ | ⟨hne,h6⟩
     ·exact absurd h6 hpp
     ·refine .inr ⟨hne,h6,fun t2 k2 rows2 h7=>?_⟩;unfold Env.lookH at hl;rw [h3] at hl;simp only [h7,Option.map_some,Option.some.injEq,C.hd,Hd.own.injEq] at hl;exact hl.2.1
    ·cases hc
   ·cases hc
 ·cases hc
theorem Gt {c:C} {x:C} (h:c.hd.flat = some x):c = x ∧ c.flat = true:=by
 cases c with
 | p v=>simp [C.hd,Hd.flat] at h; exact ⟨h,rfl⟩
 | hole=>simp [C.hd,Hd.flat] at h
 | sl own t k rows =>
  cases own with
  | true=>simp [C.hd,Hd.flat] at h
  | false=>simp [C.hd,Hd.flat] at h; exact ⟨h,rfl⟩
theorem Nv {va:aj → Value} {p:aj} {c:C} (h:NodeOk w S va p c) (hf:c.flat = true) (hh:c ≠ .hole):RO w S c (va p):=by
 cases c with
 | p v=>have:va p = v:=h; rw [this]; exact .p v
 | hole=>exact absurd rfl hh
 | sl own t k rows=>cases own with | true=>cases hf | false=>exact h
theorem pv {r g k:Nat} {p:aj}:∀ (n:Nat) {kk:List Hd → Q},ah ct t (pw r g p k n kk) e K → ∃ hs:List Hd,hs.length = n ∧ (∀ i h,hs[i]? = some h → e.cell r g (a6 p i) k = some h) ∧ ah ct t (kk hs) e K
 | 0,kk,h=>⟨[],rfl,fun i h=>by simp,h⟩
 | n + 1,kk,h=>by
  obtain ⟨hs,h1,h2,h3⟩:=pv n h;have h4:=h3.2
  cases hc:e.cell r g (a6 p n) k with
  | none=>rw [hc] at h4; exact h4.elim
  | some h0 =>
   rw [hc] at h4;refine ⟨hs ++ [h0],by simp [h1],fun i x hx=>?_,h4⟩
   rcases Nat.lt_or_ge i hs.length with hi | hi
   ·rw [List.getElem?_append_left hi] at hx; exact h2 i x hx
   ·rw [List.getElem?_append_right hi] at hx
    have:i - hs.length = 0:=by
     rcases Nat.eq_zero_or_pos (i - hs.length) with h5 | h5
     ·exact h5
     ·rw [List.getElem?_eq_none (by simp; omega)] at hx; cases hx
    rw [this] at hx;simp at hx;subst hx;have:i = n:=by omega
    rw [this]; exact hc
theorem Bt:∀ {hs:List Hd} {xs:List C},roAll hs = some xs → xs.length = hs.length ∧ ∀ (i:Nat) (h:Hd),hs[i]? = some h → ∃ x,xs[i]? = some x ∧ h.flat = some x
 | [],xs,h=>by cases h; exact ⟨rfl,fun i h hh=>by simp at hh⟩
 | h0 :: hs,xs,h=>by
  unfold roAll at h;split at h
  ·rename_i c cs h1 h2
   cases h;obtain ⟨h3,h4⟩:=Bt h2;refine ⟨by simp [h3],fun i h5 h6=>?_⟩
   cases i with
   | zero=>simp at h6; subst h6; exact ⟨c,rfl,h1⟩
   | succ i=>simp at h6; obtain ⟨x,h7,h8⟩:=h4 i h5 h6; exact ⟨x,by simpa using h7,h8⟩
  ·cases h
theorem jw (hs:StV w0 e a w val S) {r g k:Nat} {p:aj} {s:Nat} {v:Value} (hv:SV e w val S s (.ptr r g p k) v) {hds:List Hd} (hl:0 < hds.length) (hc:∀ i h,hds[i]? = some h → e.cell r g (a6 p i) k = some h) :
 ∃ pp j q b o cn,p = pp ++ [(j,q)] ∧ v = .pointer (some ⟨b,o + (j * k + q),none⟩) ∧ e.con (r,0) = some cn ∧ Target e val r pp j q k b o cn ∧ ∀ (i:Nat) h,hds[i]? = some h → ∃ c,look cn.xs (pp ++ [(j,q + i)]) = some c ∧ c.hd = h ∧ a6 p i = pp ++ [(j,q + i)] ∧ w.cell? ⟨b,o + (j * k + q) + i,none⟩ = some (val (r,0) (pp ++ [(j,q + i)])) ∧ NodeOk w S (val (r,0)) (pp ++ [(j,q + i)]) c:=by
 obtain ⟨pp,j,q,b,o,cn,c,h1,h2,h3,h4,h5,h6,h7⟩:=zc hs hv (hc 0 _ (List.getElem?_eq_getElem hl));refine ⟨pp,j,q,b,o,cn,h1,h2,h3,h6,fun i h hi=>?_⟩;obtain ⟨pp',j',q',b',o',cn',c',g1,g2,g3,g4,g5,g6,g7⟩:=zc hs hv (hc i h hi);rw [h1] at g1;obtain ⟨rfl,g8⟩:=List.append_inj' g1 rfl;simp at g8;obtain ⟨rfl,rfl⟩:=g8;rw [h3] at g3;cases g3;have hb:b' = b ∧ o' = o:=by rw [h2] at g2; simp only [Value.pointer.injEq,Option.some.injEq,Addr.mk.injEq] at g2; exact ⟨g2.1.symm,by omega⟩
 obtain ⟨rfl,rfl⟩:=hb;obtain ⟨-,cur,ty,k1,k2,-⟩:=hs.own_block h3 g4 g6;refine ⟨c',g4,g5,g7,?_,hs.mem.node _ _ _ _ h3 g4⟩;rw [show o' + (j * k + q) + i = o' + (j * k + (q + i)) by omega,cell_of_row w b' _ cur ty (0,0) k1,k2]
theorem Ln {ty:TypeId} {x:Operand} (ho:o.op = .load ty x):fh P nn o (Cl P nn o.dst ty x):=by
 intro ct t e K w0 a w Qx _ hn hq ⟨val,S,hs⟩;unfold Cl at hq;split at hq
 ·exact hq.elim
 ·rename_i ti hti
  obtain ⟨i,u,z,hi,hu,hz,hsz,hby,hzz,hzs,hz1,hag,hel,hfi,hone,hpos⟩:=bl hti;obtain ⟨av,h1,h2,-⟩:=de hq hs
  have hex:∀ (v:Value),(Instr.loadAt ty (a.eval x)).run P w = .ok v w → (execOp a.eval o).run P w = .ok (.value v) w:=fun v hr=>by
   unfold execOp;simp only [ho,Sem.run_bind,hr,Result.andThen_ok,Sem.run_pure]
  split at h1
  ·rename_i r g p k
   have hv:=h2 rfl 0;split at h1
   ·rename_i hagg
    obtain ⟨hds,h3,h4,h5⟩:=pv _ h1;have hdl:0 < hds.length:=by omega
    obtain ⟨pp,j,q,b,o,cn,h6,h7,h8,h9,h10⟩:=jw hs hv hdl h4;obtain ⟨vs,hvs⟩:∃ vs:Array Value,vs = ((List.range ti.size).map fun i=>val (r,0) (a6 p i)).toArray:=⟨_,rfl⟩;have hvsz:vs.size = ti.size:=by rw [hvs]; simp
    have hget:∀ i,i < ti.size → vs[i]? = some (val (r,0) (a6 p i)):=fun i hi=>by rw [hvs]; simp [hi]
    have hr:(Instr.loadAt ty (a.eval x)).run P w = .ok (.agg vs) w:=by
     rw [h7];refine mi hu (by rw [hag,hagg]) hi (by rw [hsz,hvsz]) fun i v hi=>?_;have hil:i < ti.size:=by rw [← hvsz]; exact (Array.getElem?_eq_some_iff.1 hi).1
     obtain ⟨c,-,-,g3,g4,-⟩:=h10 i hds[i] (List.getElem?_eq_getElem (by omega));rw [hget i hil] at hi;cases hi;rw [g4,g3]
    split at h5
    ·rename_i xs hxs
     obtain ⟨g1,g2⟩:=Bt hxs;refine b0 h5 hn hs (Below.refl _ _) (hex _ hr) fun _=>⟨0,vs,rfl,by rw [hvsz]; omega,fun i c hc=>?_⟩;have hil:i < xs.length:=(List.getElem?_eq_some_iff.1 hc).1;obtain ⟨c',k1,k2,k3,k4,k5⟩:=h10 i hds[i] (List.getElem?_eq_getElem (by omega));obtain ⟨x',k6,k7⟩:=g2 i hds[i] (List.getElem?_eq_getElem (by omega));rw [hc] at k6;cases k6;rw [← k2] at k7;obtain ⟨rfl,k8⟩:=Gt k7;refine ⟨_,hget i (by omega),?_⟩;rw [k3];exact Nv k5 k8 (by rintro rfl; simp [C.hd,Hd.flat] at k7)
    ·refine b0 h5 hn hs (Below.refl _ _) (hex _ hr) fun _=>⟨0,hv.1,fun _=>⟨vs,rfl,hvsz,fun i hi=>hget i hi⟩⟩
   ·rename_i hagg
    have hag':mw u = false:=by rw [hag]; simpa using hagg
    have h3:=h1.2;dsimp only at h3;split at h3
    ·rename_i v hc
     obtain ⟨pp,j,q,b,o,cn,h6,h7,h8,h9,h10⟩:=jw (hds:=[.p v]) hs hv (by simp) fun i h hi=>by
      cases i with
      | zero=>simp at hi; subst hi; exact hc
      | succ i=>simp at hi
     obtain ⟨c,k1,k2,k3,k4,k5⟩:=h10 0 _ rfl;have hc':c = .p v:=(Gt (x:=.p v) (by rw [k2]; rfl)).1;subst hc';have hvv:val (r,0) (pp ++ [(j,q + 0)]) = v:=k5;refine b0 h3 hn hs (Below.refl _ _) (hex v (by rw [h7]; exact iz hu hag' (by rw [← hvv]; exact k4))) fun _=>⟨0,RO.p v⟩
    ·rename_i c0 hc
     obtain ⟨pp,j,q,b,o,cn,h6,h7,h8,h9,h10⟩:=jw (hds:=[.ro c0]) hs hv (by simp) fun i h hi=>by
      cases i with
      | zero=>simp at hi; subst hi; exact hc
      | succ i=>simp at hi
     obtain ⟨c,k1,k2,k3,k4,k5⟩:=h10 0 _ rfl;obtain ⟨rfl,k6⟩:=Gt (c:=c) (x:=c0) (by rw [k2]; rfl);refine b0 h3 hn hs (Below.refl _ _) (hex _ (by rw [h7]; exact iz hu hag' k4)) fun _=>⟨0,Nv k5 k6 (by rintro rfl; simp [C.hd] at k2)⟩
    ·rename_i t1 k1 n1 hc
     obtain ⟨pp,j,q,b,o,cn,h6,h7,h8,h9,h10⟩:=jw (hds:=[.own t1 k1 n1]) hs hv (by simp) fun i h hi=>by
      cases i with
      | zero=>simp at hi; subst hi; exact hc
      | succ i=>simp at hi
     obtain ⟨c,k1,k2,k3,k4,k5⟩:=h10 0 _ rfl;refine b0 h3 hn hs (Below.refl _ _) (hex _ (by rw [h7]; exact iz hu hag' k4)) fun _=>⟨0,hv.1,fun _=>⟨rfl,by rw [← k3]; rfl⟩⟩
    ·exact h3.elim
  ·rename_i xs
   obtain ⟨b,off,h3,h4,h5,h6⟩:=h2 rfl 0;split at h1
   ·rename_i hagg
    split at h1
    ·rename_i hle
     have key:∀ (i:Nat),i < ti.size → ∃ v,w.cell? ⟨b,off + i,none⟩ = some v ∧ ∀ c,xs[i]? = some c → RO w S c v:=fun i hi=>by
      obtain ⟨v,h7,h8⟩:=h6 i xs[i] (List.getElem?_eq_getElem (by omega));exact ⟨v,h7,fun c hc=>by rw [List.getElem?_eq_getElem (by omega)] at hc; cases hc; exact h8⟩
     obtain ⟨vs,hvs⟩:∃ vs:Array Value,vs = ((List.range ti.size).map fun i=>(w.cell? ⟨b,off + i,none⟩).getD undef).toArray:=⟨_,rfl⟩;have hvsz:vs.size = ti.size:=by rw [hvs]; simp
     have hget:∀ i,i < ti.size → w.cell? ⟨b,off + i,none⟩ = vs[i]?:=fun i hi=>by
      obtain ⟨v,h7,-⟩:=key i hi;rw [hvs]; simp [hi,h7]
     refine b0 h1 hn hs (Below.refl _ _) (hex (.agg vs) ?_) fun _=>⟨0,vs,rfl,by rw [hvsz]; simp; omega,fun i c hc=>?_⟩
     ·rw [h3];refine mi hu (by rw [hag,hagg]) hi (by rw [hsz,hvsz]) fun i v hi=>?_;have hil:i < ti.size:=by rw [← hvsz]; exact (Array.getElem?_eq_some_iff.1 hi).1
      rw [hget i hil,hi]
     ·have hil:i < ti.size:=by
       have:=(List.getElem?_eq_some_iff.1 hc).1;simp at this; omega
      rw [List.getElem?_take_of_lt hil] at hc;obtain ⟨v,h7,h8⟩:=key i hil;exact ⟨v,by rw [← hget i hil]; exact h7,h8 c hc⟩
    ·exact h1.elim
   ·rename_i hagg
    have hag':mw u = false:=by rw [hag]; simpa using hagg
    split at h1
    ·rename_i x0 xs0
     obtain ⟨v,h7,h8⟩:=h6 0 x0 rfl;exact b0 h1 hn hs (Below.refl _ _) (hex v (by rw [h3]; exact iz hu hag' h7)) fun _=>⟨0,h8⟩
    ·exact h1.elim
  ·exact h1.elim
end
end
section
open Go Go.RowKit
def C.ro:C → C
 | .sl _ t k rows=>.sl false t k rows
 | c=>c
theorem Nd (c:C):c.ro.flat = true:=by cases c <;> rfl
theorem Yg {w:World} {S:Nat → Prop} {c:C} {v:Value} (h:RO w S c v):RO w S c.ro v:=by
 cases c with
 | p v=>exact h
 | hole=>exact h
 | sl own t k rows=>exact h.flag
theorem O6 {w:World} {S:Nat → Prop} {va:aj → Value} {p:aj} {c:C} {v:Value} (h:RO w S c v) (hf:c.flat = true) (hv:va p = v):NodeOk w S va p c:=by
 cases c with
 | p u=>cases h; exact hv
 | hole=>trivial
 | sl own t k rows =>
  cases own with
  | true=>cases hf
  | false=>show RO _ _ _ _; rw [hv]; exact h
theorem yx {xs:List C} (hf:∀ x ∈ xs,x.flat = true) {p:aj} {c:C} (h:look xs p = some c):∃ i,p = [(0,i)] ∧ xs[i]? = some c:=by
 cases p with
 | nil=>cases h
 | cons s p =>
  obtain ⟨j,i⟩:=s
  cases j with
  | succ j=>cases h
  | zero =>
   simp only [look] at h
   cases hx:xs[i]? with
   | none=>rw [hx] at h; cases h
   | some x =>
    rw [hx] at h;simp only [Option.bind_some] at h
    cases p with
    | nil=>rw [da] at h; cases h; exact ⟨i,rfl,hx⟩
    | cons s p=>rw [flat_at (hf x (List.mem_of_getElem? hx))] at h; cases h
section
variable {w0:Base} {e:Env} {a:Act} {w:World} {val:Val} {S:Nat → Prop}
theorem StV.newBox (h:StV w0 e a w val S) {d:Nat} {t:TypeId} {xs:List C} {vs:Array Value} (hd:d < e.n) (hf:∀ x ∈ xs,x.flat = true) (hv:ROs w S xs vs) :
 ∃ val' S',StV w0 (e.set d .box (oneCon ⟨some t,xs⟩)) (a.put (some d) (.pointer (some ⟨w.heap.size,0,none⟩))) (w.alloc (.cells vs t)) val' S' ∧ (∀ key:bh,key.1 ≠ d → val' key = val key) ∧ ∀ i,val' (d,0) [(0,i)] = vs.getD i undef:=by
 have hb:Below w.heap.size w (w.alloc (.cells vs t)):=(Below.refl _ _).alloc (Nat.le_refl _) _;refine ⟨_,_,h.setG (vd:=fun i p=>match i,p with | 0,[]=>.pointer (some ⟨w.heap.size,0,none⟩) | 0,[(0,j)]=>vs.getD j undef | _,_=>undef) (S2:=fun _=>False) hd hb ?_ ?_ (fun _ hf=>hf.elim) ?_,fun key hk=>by simp only [dt,if_neg hk],fun i=>by simp [dt]⟩
 ·have hc:∀ key cn,ij d (oneCon ⟨some t,xs⟩) key = some cn → key = (d,0) ∧ cn = ⟨some t,xs⟩:=fun key cn hk=>by
   obtain ⟨k1,k2⟩:=key;unfold ij oneCon at hk;split at hk
   ·rename_i h1
    simp only at h1;subst h1;simp only at hk;split at hk
    ·rename_i h2; subst h2; cases hk; exact ⟨rfl,rfl⟩
    ·cases hk
   ·cases hk
  have hown:∀ b key p,OwnB (ij d (oneCon ⟨some t,xs⟩)) (dt d (fun i p=>match i,p with | 0,[]=>.pointer (some ⟨w.heap.size,0,none⟩) | 0,[(0,j)]=>vs.getD j undef | _,_=>undef) val) b key p → b = w.heap.size ∧ key = (d,0) ∧ p = []:=fun b key p ho=>by
   rcases ho with ⟨rfl,⟨t',xs',h1⟩,h2⟩ | ⟨cn,t',k',rows',n',cap',h1,h2,h3⟩
   ·obtain ⟨rfl,-⟩:=hc _ _ h1;simp [dt] at h2;exact ⟨h2.symm,rfl,rfl⟩
   ·obtain ⟨rfl,rfl⟩:=hc _ _ h1;obtain ⟨i,rfl,h4⟩:=yx hf h2;have:=hf _ (List.mem_of_getElem? h4);cases this
  refine ⟨fun key cn p c h1 h2=>?_,fun key t' xs' h1=>?_,fun b key p key' p' h1 h2=>?_,fun b hb'=>?_⟩
  ·obtain ⟨rfl,rfl⟩:=hc _ _ h1;obtain ⟨i,rfl,h4⟩:=yx hf h2;obtain ⟨u,h5,h6⟩:=hv.2 i c h4;refine O6 (h6.keep (fun b hb _=>.inl hb) fun b _ hl=>hb.block b hl) (hf c (List.mem_of_getElem? h4)) ?_;simp [dt,h5]
  ·obtain ⟨rfl,h2⟩:=hc _ _ h1;cases h2;refine ⟨w.heap.size,vs,by simp [dt],heap_alloc_new w _,hv.1,fun i hi=>?_⟩;obtain ⟨u,h5,-⟩:=hv.2 i xs[i] (List.getElem?_eq_getElem hi);simp [dt,h5]
  ·obtain ⟨-,rfl,rfl⟩:=hown _ _ _ h1;obtain ⟨-,rfl,rfl⟩:=hown _ _ _ h2;exact ⟨rfl,rfl⟩
  ·rcases hb' with hb' | hb'
   ·have hlt:=(h.mem.sep b hb').1;refine ⟨by simp; omega,fun key p ho=>?_⟩;have:=(hown _ _ _ ho).1;omega
   ·exact hb'.elim
 ·intro b key p ho
  rcases ho with ⟨rfl,⟨t',xs',h1⟩,h2⟩ | ⟨cn,t',k',rows',n',cap',h1,h2,h3⟩
  ·unfold ij oneCon at h1;split at h1
   ·rename_i h4
    split at h1
    ·rename_i h5
     simp only [dt,h4,h5,if_true] at h2;simp at h2;omega
    ·cases h1
   ·cases h1
  ·unfold ij oneCon at h1;split at h1
   ·split at h1
    ·cases h1;obtain ⟨i,rfl,h4⟩:=yx hf h2;have:=hf _ (List.mem_of_getElem? h4);cases this
    ·cases h1
   ·cases h1
 ·exact ⟨⟨t,xs,by simp [Env.set,oneCon]⟩,by simp [dt]⟩
theorem StV.newSliceV (h:StV w0 e a w val S) {d:Nat} {t:TypeId} {k cap:Nat} {rows:List (List C)} {cur:Array Value} (hd:d < e.n) (hk:0 < k) (hr:∀ r ∈ rows,r.length = k) (hf:∀ r ∈ rows,∀ x ∈ r,x.flat = true) (hcap:rows.length ≤ cap) (hmax:cap ≤ maxLen) (hcur:cur.size = cap * k)
 (hv:∀ j q c,cg rows j q = some c → ∃ u,cur[j * k + q]? = some u ∧ RO w S c u) :
 ∃ val' S',StV w0 (e.set d (.own false 1) (oneCon ⟨none,[.sl true t k rows]⟩)) (a.put (some d) (.slice (some ⟨w.heap.size,0,none⟩) rows.length cap)) (w.alloc (.cells cur t)) val' S' ∧ ∀ key:bh,key.1 ≠ d → val' key = val key:=by
 have hb:Below w.heap.size w (w.alloc (.cells cur t)):=(Below.refl _ _).alloc (Nat.le_refl _) _
 obtain ⟨vd,hvd⟩:∃ vd:Nat → aj → Value,vd = fun i p=>match i,p with | 0,[(0,0)]=>.slice (some ⟨w.heap.size,0,none⟩) rows.length cap | 0,[(0,0),(j,q)]=>cur.getD (j * k + q) undef | _,_=>undef:=⟨_,rfl⟩
 have hc:∀ key cn,ij d (oneCon ⟨none,[.sl true t k rows]⟩) key = some cn → key = (d,0) ∧ cn = ⟨none,[.sl true t k rows]⟩:=fun key cn hk=>by
  obtain ⟨k1,k2⟩:=key;unfold ij oneCon at hk;split at hk
  ·rename_i h1
   simp only at h1;subst h1;simp only at hk;split at hk
   ·rename_i h2; subst h2; cases hk; exact ⟨rfl,rfl⟩
   ·cases hk
  ·cases hk
 have hlook:∀ p c,look [.sl true t k rows] p = some c → (p = [(0,0)] ∧ c = .sl true t k rows) ∨ ∃ j q,p = [(0,0),(j,q)] ∧ cg rows j q = some c:=fun p c hp=>by
  cases p with
  | nil=>cases hp
  | cons s p =>
   obtain ⟨j,i⟩:=s
   cases j with
   | succ j=>cases hp
   | zero =>
    simp only [look] at hp
    cases i with
    | succ i=>simp at hp
    | zero =>
     simp only [List.getElem?_cons_zero,Option.bind_some] at hp
     cases p with
     | nil=>rw [da] at hp; cases hp; exact .inl ⟨rfl,rfl⟩
     | cons s p =>
      obtain ⟨t',k',rows',c',he,h3,h4⟩:=ei hp;cases he;obtain ⟨j,q⟩:=s
      cases p with
      | nil=>rw [da] at h4; cases h4; exact .inr ⟨j,q,rfl,h3⟩
      | cons s p =>
       obtain ⟨r,g1,g2⟩:=bi.1 h3;rw [flat_at (hf r (List.mem_of_getElem? g1) c' (List.mem_of_getElem? g2))] at h4;cases h4
 have hown:∀ b key p,OwnB (ij d (oneCon ⟨none,[.sl true t k rows]⟩)) (dt d vd val) b key p → b = w.heap.size ∧ key = (d,0) ∧ p = [(0,0)]:=fun b key p ho=>by
  rcases ho with ⟨rfl,⟨t',xs',h1⟩,h2⟩ | ⟨cn,t',k',rows',n',cap',h1,h2,h3⟩
  ·have:=(hc _ _ h1).2; cases this
  ·obtain ⟨rfl,rfl⟩:=hc _ _ h1
   rcases hlook _ _ h2 with ⟨rfl,h4⟩ | ⟨j,q,rfl,h4⟩
   ·simp [dt,hvd] at h3;exact ⟨h3.1.symm,rfl,rfl⟩
   ·obtain ⟨r,g1,g2⟩:=bi.1 h4;have:=hf r (List.mem_of_getElem? g1) _ (List.mem_of_getElem? g2);cases this
 refine ⟨_,_,h.setG (vd:=vd) (S2:=fun _=>False) hd hb ?_ (fun b key p ho=>by have:=(hown b key p ho).1; omega) (fun _ hf=>hf.elim) ?_,fun key hk=>by simp [dt,hk]⟩
 ·refine ⟨fun key cn p c h1 h2=>?_,fun key t' xs' h1=>?_,fun b key p key' p' h1 h2=>?_,fun b hb'=>?_⟩
  ·obtain ⟨rfl,rfl⟩:=hc _ _ h1
   rcases hlook _ _ h2 with ⟨rfl,rfl⟩ | ⟨j,q,rfl,h4⟩
   ·refine ⟨hk,hr,.inr ⟨w.heap.size,0,cap,cur,by simp [dt,hvd],heap_alloc_new w _,hcap,hmax,by rw [Nat.zero_add]; exact Nat.le_of_eq hcur.symm,fun j q c hc'=>?_⟩⟩;obtain ⟨u,h5,-⟩:=hv j q c hc';simp [dt,hvd,h5]
   ·obtain ⟨u,h5,h6⟩:=hv j q c h4;obtain ⟨r,g1,g2⟩:=bi.1 h4;refine O6 (h6.keep (fun b hb _=>.inl hb) fun b _ hl=>hb.block b hl) (hf r (List.mem_of_getElem? g1) c (List.mem_of_getElem? g2)) ?_;simp [dt,hvd,h5]
  ·have:=(hc _ _ h1).2; cases this
  ·obtain ⟨-,rfl,rfl⟩:=hown _ _ _ h1;obtain ⟨-,rfl,rfl⟩:=hown _ _ _ h2;exact ⟨rfl,rfl⟩
  ·rcases hb' with hb' | hb'
   ·have hlt:=(h.mem.sep b hb').1;refine ⟨by simp; omega,fun key p ho=>?_⟩;have:=(hown _ _ _ ho).1;omega
   ·exact hb'.elim
 ·exact ⟨⟨.sl true t k rows,by simp [Env.set,oneCon]⟩,rfl,by simp [dt,hvd]⟩
theorem StV.newSlice (h:StV w0 e a w val S) {d:Nat} {t:TypeId} {k cap:Nat} {rows:List (List C)} {cur:Array Value} (hd:d < e.n) (hk:0 < k) (hr:∀ r ∈ rows,r.length = k) (hf:∀ r ∈ rows,∀ x ∈ r,x.flat = true) (hcap:rows.length ≤ cap) (hmax:cap ≤ maxLen) (hcur:cur.size = cap * k)
 (hv:∀ j q c,cg rows j q = some c → ∃ u,cur[j * k + q]? = some u ∧ RO w S c u) :
 ∃ val' S',StV w0 (e.set d (.own false 1) (oneCon ⟨none,[.sl true t k rows]⟩)) (a.put (some d) (.slice (some ⟨w.heap.size,0,none⟩) rows.length cap)) (w.alloc (.cells cur t)) val' S' :=
 let ⟨v,s,h1,_⟩:=h.newSliceV hd hk hr hf hcap hmax hcur hv
 ⟨v,s,h1⟩
end
def vp (P:Program) (nn:Nat) (d:Option Nat) (t:TypeId):Q:=match bp P t with
 | none=>.fail
 | some ti=>o5 nn d [] .box (oneCon ⟨some t,ti.zero.map C.p⟩)
def C.one:C → Bool
 | .p v=>v.oneCell'
 | .hole=>false
 | _=>true
def cellsOf (ag:Bool) (av:AV):Option (List C):=match ag,av with
 | false,.c x=>if x.one = true then some [x.ro] else none
 | true,.agg xs=>if xs.all C.one = true then some (xs.map C.ro) else none
 | _,_=>none
section
variable {P:Program} {nn:Nat} {o:Oper} {ct:Cts} {t:Option Stat} {e:Env} {K:Env → Prop} {w0:Base} {a:Act} {w:World} {val:Val} {S:Nat → Prop} {Qx:Exit → Act → World → Prop}
theorem Kb {ty:TypeId} (ho:o.op = .alloc ty):fh P nn o (vp P nn o.dst ty):=by
 intro ct t e K w0 a w Qx _ hn hq ⟨val,S,hs⟩;unfold vp at hq;split at hq
 ·exact hq.elim
 ·rename_i ti hti
  obtain ⟨i,u,z,hi,hu,hz,hsz,hby,hzz,hzs,hz1,-⟩:=bl hti;obtain ⟨d,hd,hdn,hK⟩:=fl hq
  obtain ⟨val',S',h1,-⟩:=hs.newBox (t:=ty) (xs:=ti.zero.map C.p) (vs:=z.cells) (by omega:d < e.n) (fun x hx=>by obtain ⟨v,-,rfl⟩:=List.mem_map.1 hx; rfl) ⟨by rw [← hzz]; simp,fun i x hx=>by
   rw [← hzz] at hx;simp only [List.getElem?_map,Array.getElem?_toList,Option.map_eq_some_iff] at hx;obtain ⟨v,h1,rfl⟩:=hx
   exact ⟨v,h1,.p v⟩⟩
  refine dm (w':=w.alloc (.cells z.cells ty)) (v:=.pointer (some ⟨w.heap.size,0,none⟩)) ?_ ⟨_,hK,val',S',by rw [hd]; exact h1⟩;unfold execOp;simp only [ho,Instr.alloc,Sem.run_bind,Sr hi hz,Result.andThen_ok,newVar,newRow,run_newObj,Sem.run_pure];rfl
theorem B7 {c:C} {v:Value} (h:RO w S c v) (h1:c.one = true):v.oneCell' = true ∧ v.cells = #[v]:=by
 cases h with
 | p v =>
  have h2:v.oneCell' = true:=h1;refine ⟨h2,?_⟩;cases v <;> first | rfl | cases h2
 | hole v=>cases h1
 | nil own t k A cap hc=>exact ⟨rfl,rfl⟩
 | sl own t k rows b off cap us h1 h2 h3 h4 h5 h6 h7=>exact ⟨rfl,rfl⟩
theorem ia {ag:Bool} {av:AV} {xs:List C} (h:cellsOf ag av = some xs) {s:Nat} {v:Value} (hv:av.plain = true → SV e w val S s av v):(∀ x ∈ xs,x.flat = true) ∧ ROs w S xs v.cells ∧ (∀ u ∈ v.cells.toList,u.oneCell' = true) ∧ (ag = false → v.cells = #[v]) ∧ (ag = true → v = .agg v.cells):=by
 unfold cellsOf at h;split at h
 ·rename_i x
  split at h
  ·rename_i h1
   cases h;have hx:RO w S x v:=hv rfl;obtain ⟨h2,h3⟩:=B7 hx h1;rw [h3];refine ⟨fun y hy=>by simp at hy; rw [hy]; exact Nd x,⟨rfl,fun i y hy=>?_⟩,fun u hu=>by simp at hu; rw [hu]; exact h2,fun _=>rfl,fun h=>by cases h⟩
   cases i with
   | zero=>simp at hy; subst hy; exact ⟨v,rfl,Yg hx⟩
   | succ i=>simp at hy
  ·cases h
 ·rename_i xs'
  split at h
  ·rename_i hall
   cases h;obtain ⟨vs,rfl,h1,h2⟩:=hv rfl;refine ⟨fun y hy=>by obtain ⟨x,-,rfl⟩:=List.mem_map.1 hy; exact Nd x,⟨?_,fun i x hx=>?_⟩,fun u hu=>?_,(fun h=>by cases h),fun _=>rfl⟩
   ·show vs.size = _; simpa using h1
   ·simp only [List.getElem?_map,Option.map_eq_some_iff] at hx;obtain ⟨y,h3,rfl⟩:=hx;obtain ⟨u,h4,h5⟩:=h2 i y h3;exact ⟨u,h4,Yg h5⟩
   ·have hu':u ∈ vs.toList:=hu;obtain ⟨i,hi,rfl⟩:=List.getElem_of_mem hu';have hi':i < xs'.length:=by rw [← h1]; simpa using hi
    obtain ⟨u2,h4,h5⟩:=h2 i xs'[i] (List.getElem?_eq_getElem hi');have:=(B7 h5 (List.all_eq_true.1 hall _ (List.getElem_mem hi'))).1;have he:vs[i]? = some vs.toList[i]:=by rw [← Array.getElem?_toList,List.getElem?_eq_getElem hi]
    rw [he] at h4;cases h4;exact this
  ·cases h
 ·cases h
def Du (av:AV) (k:Int → Q):Q:=match av with
 | .c (.p (.int _ n))=>k n
 | _=>.fail
theorem w6 {av:AV} {k:Int → Q} (h:ah ct t (Du av k) e K):∃ kd n,av = .c (.p (.int kd n)) ∧ ah ct t (k n) e K:=by
 unfold Du at h;split at h
 ·exact ⟨_,_,rfl,h⟩
 ·exact h.elim
def fc (z:List Value) (n:Nat):List (List C):=List.replicate n (z.map C.p)
def Ck (P:Program) (nn:Nat) (d:Option Nat) (t:TypeId) (l c:Operand):Q:=match bp P t with
 | none=>.fail
 | some ti=>match ti.elem with
  | none=>.fail
  | some el=>match bp P el with
   | none=>.fail
   | some te=>opd l fun av=>Du av fun n=>opd c fun av2=>Du av2 fun m =>
    if 0 ≤ n ∧ n ≤ m ∧ m ≤ 4194304 ∧ te.bytes ≤ 4194304 then o5 nn d [] (.own false 1) (oneCon ⟨none,[.sl true el te.size (fc te.zero n.toNat)]⟩) else .fail
theorem Lm {ty:TypeId} {l c:Operand} (ho:o.op = .makeSlice ty l c):fh P nn o (Ck P nn o.dst ty l c):=by
 intro ct t e K w0 a w Qx _ hn hq ⟨val,S,hs⟩;unfold Ck at hq;split at hq
 ·exact hq.elim
 ·rename_i ti hti
  split at hq
  ·exact hq.elim
  ·rename_i el hel0
   split at hq
   ·exact hq.elim
   ·rename_i te hte
    obtain ⟨i,u,z,hi,hu,hz,hsz,hby,hzz,hzs,hz1,hag,hel,hfi,hone,hpos⟩:=bl hti;obtain ⟨i2,u2,z2,hi2,hu2,hz2,hsz2,hby2,hzz2,hzs2,hz12,hag2,hel2,hfi2,hone2,hpos2⟩:=bl hte;obtain ⟨av,h1,h2,-⟩:=de hq hs;obtain ⟨kd,n,rfl,h3⟩:=w6 h1;have hl:a.eval l = .int kd n:=fp (h2 rfl 0);obtain ⟨av2,h4,h5,-⟩:=de h3 hs;obtain ⟨kd2,m,rfl,h6⟩:=w6 h4;have hc:a.eval c = .int kd2 m:=fp (h5 rfl 0);split at h6
    ·rename_i hb
     obtain ⟨d,hd,hdn,hK⟩:=fl h6
     have hus:P.underlying ty = some (.slice el):=by
      rw [hu];rw [hel0] at hel;cases u <;> simp [ji] at hel;rw [hel]
     have hmn:m.toNat * te.size = (madeCells z2.cells (m.toNat * i2.size)).size:=by rw [size_madeCells,hsz2]
     obtain ⟨val',S',h7⟩:=hs.newSlice (t:=el) (k:=te.size) (cap:=m.toNat) (rows:=fc te.zero n.toNat) (cur:=madeCells z2.cells (m.toNat * i2.size)) (by omega:d < e.n) hpos2 (fun r hr=>by
      rw [List.eq_of_mem_replicate hr,List.length_map,← hzz2,Array.length_toList,hzs2,hsz2]) (fun r hr x hx=>by
      rw [List.eq_of_mem_replicate hr] at hx
      obtain ⟨v,-,rfl⟩:=List.mem_map.1 hx; rfl) (by simp [fc]; omega) (by unfold maxLen; omega) hmn.symm (fun j q c hjq=>by
      obtain ⟨r,g1,g2⟩:=bi.1 hjq
      have hj:j < n.toNat:=by
       have:=(List.getElem?_eq_some_iff.1 g1).1;simpa [fc] using this
      have hr:=List.eq_of_mem_replicate (List.mem_of_getElem? g1);rw [hr] at g2;simp only [List.getElem?_map,Option.map_eq_some_iff] at g2;obtain ⟨v,g3,rfl⟩:=g2;refine ⟨v,?_,.p v⟩;rw [← hzz2,Array.getElem?_toList] at g3;have hq:q < z2.cells.size:=(Array.getElem?_eq_some_iff.1 g3).1
      have hlt:j * te.size + q < m.toNat * i2.size:=by
       rw [hsz2];have h8:j + 1 ≤ m.toNat:=by omega
       have h9:=Nat.mul_le_mul_right te.size h8;rw [Nat.add_mul] at h9;omega
      have hmod:(j * te.size + q) % z2.cells.size = q:=by
       rw [hzs2,hsz2,Nat.mul_comm,Nat.mul_add_mod,Nat.mod_eq_of_lt (by omega)]
      unfold madeCells;rw [Array.getElem?_map,Array.getElem?_range,if_pos hlt];simp only [Option.map_some,hmod];rw [getElem!_pos z2.cells q hq]
      exact (Array.getElem?_eq_some_iff.1 g3).2 ▸ rfl)
     have hlen:(fc te.zero n.toNat).length = n.toNat:=by simp [fc]
     rw [hlen] at h7;refine dm (w':=w.alloc (.cells (madeCells z2.cells (m.toNat * i2.size)) el)) (v:=.slice (some ⟨w.heap.size,0,none⟩) n.toNat m.toNat) ?_ ⟨_,hK,val',S',by rw [hd]; exact h7⟩;unfold execOp;simp only [ho,hl,hc,Sem.run_bind]
     have hbytes:(i2.bytes:Int) * m ≤ 281474976710656:=by
      have h8:(i2.bytes:Int) ≤ 4194304:=by omega
      have h9:(i2.bytes:Int) * m ≤ 4194304 * 4194304:=Int.mul_le_mul h8 (by omega) (by omega) (by omega);omega
     rw [run_make (P:=P) w ty el i2 z2 hus hi2 hz2 kd kd2 n m (by omega) (by omega) hbytes (by omega)];simp
    ·exact h6.elim
end
end
section
open Go Go.RowKit
theorem Bo {rows:List (List C)} {own:Bool} {t k j q:Nat} {c:C} (h:cg rows j q = some c):SizeOf.sizeOf c < SizeOf.sizeOf (C.sl own t k rows):=by
 obtain ⟨r,h1,h2⟩:=bi.1 h;have a1:=List.sizeOf_lt_of_mem (List.mem_of_getElem? h1);have a2:=List.sizeOf_lt_of_mem (List.mem_of_getElem? h2);simp only [C.sl.sizeOf_spec];omega
theorem Wx {w:World} {S:Nat → Prop} {va:aj → Value} {xs:List C} (hm:∀ p c,look xs p = some c → NodeOk w S va p c):∀ (c:C) (p:aj),look xs p = some c → RO w (fun _=>True) c (va p):=by
 intro c
 induction hn:SizeOf.sizeOf c using Nat.strongRecOn generalizing c with
 | _ n ih =>
  intro p hp;have h:=hm p c hp
  cases c with
  | p v=>have:va p = v:=h; rw [this]; exact .p v
  | hole=>exact .hole _
  | sl own t k rows =>
   cases own with
   | false=>exact RO.weak h fun _ _ _=>trivial
   | true =>
    obtain ⟨h0,h1,h2⟩:=h
    rcases h2 with ⟨rfl,h3⟩ | ⟨b,o,cap,cur,h3,h4,h5,h6,h7,h8⟩
    ·rw [h3]; exact .nil _ _ _ _ _ (by unfold maxLen; omega)
    ·rw [h3];refine .sl true t k rows b o cap (fun j q=>va (p ++ [(j,q)])) h1 h5 h6 trivial (Array.getElem?_eq_some_iff.1 h4).1 (fun j q c hc=>?_) fun j q c hc=>?_
     ·rw [Nat.add_assoc,cell_of_row w b _ cur t (0,0) h4];exact h8 j q c hc
     ·exact ih (SizeOf.sizeOf c) (by rw [← hn]; exact Bo hc) c rfl _ ((gx (eh hp)).2 ⟨t,k,rows,hp,hc⟩)
theorem B8 {w:World} {S S':Nat → Prop} {va:aj → Value} {xs:List C} (hm:∀ p c,look xs p = some c → NodeOk w S va p c) (hS:∀ b,S b → S' b) (hO:∀ p t k rows b o n cap,look xs p = some (.sl true t k rows) → va p = .slice (some ⟨b,o,none⟩) n cap → S' b):∀ (c:C) (p:aj),look xs p = some c → RO w S' c (va p):=by
 intro c
 induction hn:SizeOf.sizeOf c using Nat.strongRecOn generalizing c with
 | _ n ih =>
  intro p hp;have h:=hm p c hp
  cases c with
  | p v=>have:va p = v:=h; rw [this]; exact .p v
  | hole=>exact .hole _
  | sl own t k rows =>
   cases own with
   | false=>exact RO.weak h fun b hb _=>hS b hb
   | true =>
    obtain ⟨h0,h1,h2⟩:=h
    rcases h2 with ⟨rfl,h3⟩ | ⟨b,o,cap,cur,h3,h4,h5,h6,h7,h8⟩
    ·rw [h3]; exact .nil _ _ _ _ _ (by unfold maxLen; omega)
    ·have hb:=hO p t k rows b _ _ _ hp h3;rw [h3];refine .sl true t k rows b o cap (fun j q=>va (p ++ [(j,q)])) h1 h5 h6 hb (Array.getElem?_eq_some_iff.1 h4).1 (fun j q c hc=>?_) fun j q c hc=>?_
     ·rw [Nat.add_assoc,cell_of_row w b _ cur t (0,0) h4];exact h8 j q c hc
     ·exact ih (SizeOf.sizeOf c) (by rw [← hn]; exact Bo hc) c rfl _ ((gx (eh hp)).2 ⟨t,k,rows,hp,hc⟩)
section
variable {P:Program} {nn:Nat} {o:Oper} {ct:Cts} {t:Option Stat} {e:Env} {K:Env → Prop} {w0:Base} {a:Act} {w:World} {val:Val} {S:Nat → Prop} {Qx:Exit → Act → World → Prop}
def iu (P:Program) (nn:Nat) (d:Option Nat) (s:TypeId) (x:Operand) (f:Nat):Q:=match bp P s with
 | none=>.fail
 | some ti=>match ti.fields[f]? with
  | none=>.fail
  | some (off,fty)=>match bp P fty with
   | none=>.fail
   | some _=>opd x fun av=>match av with
    | .ptr r g p k=>.cell r g (a6 p off) k fun h=>match h with
     | some _=>ig nn d (.ptr r g (a6 p off) k)
     | none=>.fail
    | .rp xs=>ig nn d (.rp (xs.drop off))
    | _=>.fail
theorem Ah {s:TypeId} {x:Operand} {f:Nat} (ho:o.op = .fieldAddr s x f):fh P nn o (iu P nn o.dst s x f):=by
 intro ct t e K w0 a w Qx _ hn hq ⟨val,S,hs⟩;unfold iu at hq;split at hq
 ·exact hq.elim
 ·rename_i ti hti
  split at hq
  ·exact hq.elim
  ·rename_i off fty hf
   split at hq
   ·exact hq.elim
   ·rename_i tf htf
    obtain ⟨i,u,z,hi,hu,hz,hsz,hby,hzz,hzs,hz1,hag,hel,hfi,hone,hpos⟩:=bl hti;obtain ⟨i2,u2,z2,hi2,hu2,hz2,hsz2,hby2,hzz2,hzs2,hz12,hag2,hel2,hfi2,hone2,hpos2⟩:=bl htf;obtain ⟨av,h1,h2,-⟩:=de hq hs
    have hfs:∃ fs:Array Field,u = .struct fs ∧ ∃ fd,fs[f]? = some fd ∧ fd.offset = off ∧ fd.type = fty:=by
     rw [← hfi] at hf;cases u <;> simp [ma] at hf
     rename_i fs
     obtain ⟨fd,h3,h4,h5⟩:=hf;exact ⟨fs,rfl,fd,h3,h4,h5⟩
    obtain ⟨fs,rfl,fd,hfd,rfl,rfl⟩:=hfs
    have hex:∀ b o1,a.eval x = .pointer (some ⟨b,o1,none⟩) → (execOp a.eval o).run P w = .ok (.value (.pointer (some ⟨b,o1 + fd.offset,none⟩))) w:=fun b o1 he=>by
     unfold execOp;simp only [ho,he,Instr.fieldAt,Sem.run_bind,run_underlying hu,Result.andThen_ok,hfd,Instr.sureAddr,Sem.run_pure,fieldPlace,o6 hi2];rw [if_neg (by omega)];simp only [Sem.run_pure,Result.andThen_ok,jn]
    split at h1
    ·rename_i r g p k
     have h3:=h1.2;dsimp only at h3;have hv:=h2 rfl 0;split at h3
     ·rename_i hd0 hc
      obtain ⟨pp,j,q,b,o2,cn,c,rfl,h4,h5,h6,h7,h8,h9⟩:=zc hs hv hc;refine b0 h3 hn hs (Below.refl _ _) (hex b _ h4) fun _=>⟨0,hv.1,fun _=>?_⟩;rw [h9];refine ⟨pp,j,q + fd.offset,b,o2,rfl,by rw [Nat.add_assoc,Nat.add_assoc],?_⟩
      rcases h8 with ⟨h10,h11,h13,h12,-⟩ | ⟨h10,h11,-⟩
      ·exact .inl ⟨h10,h11,h13,h12⟩
      ·exact .inr ⟨h10,h11⟩
     ·exact h3.elim
    ·rename_i xs
     obtain ⟨b,o1,h3,h4,h5,h6⟩:=h2 rfl 0;refine b0 h1 hn hs (Below.refl _ _) (hex b o1 h3) fun _=>⟨0,b,_,rfl,h4,h5,fun i x hx=>?_⟩;rw [List.getElem?_drop] at hx;obtain ⟨u,h7,h8⟩:=h6 _ x hx;exact ⟨u,by rw [Nat.add_assoc]; exact h7,h8⟩
    ·exact h1.elim
def it (P:Program) (nn:Nat) (d:Option Nat) (s:TypeId) (x ix:Operand):Q:=match bp P s with
 | none=>.fail
 | some ti=>match ti.elem with
  | none=>.fail
  | some el=>match bp P el with
   | none=>.fail
   | some te=>opd x fun av=>opd ix fun av2=>Du av2 fun n=>match av with
    | .ref r g p ag m=>if ag = false ∧ m = 1 then .hd r g p fun h=>match h with
     | some (.own _ k len)=>if 0 ≤ n ∧ n < (len:Int) ∧ k = te.size then ig nn d (.ptr r g (p ++ [(n.toNat,0)]) k) else .fail
     | _=>.fail
     else .fail
    | .c (.sl _ _ k rows)=>if 0 ≤ n ∧ n < (rows.length:Int) ∧ k = te.size then ig nn d (.rp (rows.getD n.toNat [])) else .fail
    | _=>.fail
theorem Ol (hs:StV w0 e a w val S) {r g:Nat} {p:aj} {h:Hd} (hc:e.hd r g p = some h):e.fresh r g p ∧ ∃ cn c,e.con (r,0) = some cn ∧ look cn.xs p = some c ∧ c.hd = h ∧ NodeOk w S (val (r,0)) p c:=by
 unfold Env.hd at hc;split at hc
 ·rename_i hok
  refine ⟨i4 hok,?_⟩;unfold Env.lookH at hc;split at hc
  ·rename_i cn hcn
   cases hl:look cn.xs p with
   | none=>rw [hl] at hc; cases hc
   | some c=>rw [hl] at hc; simp only [Option.map_some,Option.some.injEq] at hc; exact ⟨cn,c,hcn,hl,hc,hs.mem.node _ _ _ _ hcn hl⟩
  ·cases hc
 ·cases hc
theorem F1 {s el:TypeId} {i2:TypeInfo} {b off n cap:Nat} {kd:IntKind} {m:Int} (hu:P.underlying s = some (.slice el)) (hi:P.info? el = some i2) (h0:0 ≤ m) (h1:m < (n:Int)) :
 (Instr.indexAt s (.slice (some ⟨b,off,none⟩) n cap) (.int kd m)).run P w = .ok (.pointer (some ⟨b,off + m.toNat * i2.size,none⟩)) w:=by
 unfold Instr.indexAt;simp only [asIntOf,Sem.run_bind,Sem.run_pure,Result.andThen_ok,run_underlying hu];rw [if_pos ⟨h0,h1⟩];simp only [Sem.run_bind,o6 hi,Result.andThen_ok,Sem.run_pure,jn]
theorem Af {s:TypeId} {x ix:Operand} (ho:o.op = .indexAddr s x ix):fh P nn o (it P nn o.dst s x ix):=by
 intro ct t e K w0 a w Qx _ hn hq ⟨val,S,hs⟩;unfold it at hq;split at hq
 ·exact hq.elim
 ·rename_i ti hti
  split at hq
  ·exact hq.elim
  ·rename_i el hel0
   split at hq
   ·exact hq.elim
   ·rename_i te hte
    obtain ⟨i,u,z,hi,hu,hz,hsz,hby,hzz,hzs,hz1,hag,hel,hfi,hone,hpos⟩:=bl hti;obtain ⟨i2,u2,z2,hi2,hu2,hz2,hsz2,hby2,hzz2,hzs2,hz12,hag2,hel2,hfi2,hone2,hpos2⟩:=bl hte
    have hus:P.underlying s = some (.slice el):=by
     rw [hu];rw [hel0] at hel;cases u <;> simp [ji] at hel;rw [hel]
    obtain ⟨av,h1,h2,-⟩:=de hq hs;obtain ⟨av2,h3,h4,-⟩:=de h1 hs;obtain ⟨kd,n,rfl,h5⟩:=w6 h3;have hix:a.eval ix = .int kd n:=fp (h4 rfl 0)
    have hex:∀ b o1 len cap,a.eval x = .slice (some ⟨b,o1,none⟩) len cap → 0 ≤ n → n < (len:Int) → (execOp a.eval o).run P w = .ok (.value (.pointer (some ⟨b,o1 + n.toNat * i2.size,none⟩))) w:=fun b o1 len cap he h0 h1=>by
     unfold execOp;simp only [ho,he,hix,Sem.run_bind,F1 hus hi2 h0 h1,Result.andThen_ok,Sem.run_pure]
    split at h5
    ·rename_i r g p ag m
     split at h5
     ·rename_i hag0
      obtain ⟨rfl,rfl⟩:=hag0;have h6:=h5.2;dsimp only at h6;split at h6
      ·rename_i t1 k len hc
       split at h6
       ·rename_i hb
        obtain ⟨hb0,hb1,rfl⟩:=hb;obtain ⟨hfr,cn,c,g1,g2,g3,g4⟩:=Ol hs hc;obtain ⟨hg,hv⟩:=h2 rfl 0
        cases c with
        | p v=>simp [C.hd] at g3
        | hole=>simp [C.hd] at g3
        | sl own t2 k2 rows2 =>
         cases own with
         | false=>simp [C.hd] at g3
         | true =>
          simp only [C.hd,Hd.own.injEq] at g3;obtain ⟨rfl,rfl,rfl⟩:=g3
          obtain ⟨-,hv⟩:=hv fun i hi=>by
           have:i = 0:=by omega
           subst this;exact hfr
          obtain ⟨-,-,g5⟩:=g4
          rcases g5 with ⟨rfl,-⟩ | ⟨b,o2,cap,cur,g5,-⟩
          ·simp at hb1; omega
          ·refine b0 h6 hn hs (Below.refl _ _) (hex b o2 _ cap (by rw [hv,g5]) hb0 hb1) fun _=>⟨0,hg,fun _=>?_⟩;exact ⟨p,n.toNat,0,b,o2,rfl,by rw [hsz2]; simp,.inr ⟨eh g2,_,_,g5⟩⟩
       ·exact h6.elim
      ·exact h6.elim
     ·exact h5.elim
    ·rename_i own t1 k rows
     split at h5
     ·rename_i hb
      obtain ⟨hb0,hb1,rfl⟩:=hb;have hx:RO w S (.sl own t1 te.size rows) (a.eval x):=h2 rfl 0;obtain ⟨A,cap,h6,h7,h8,h9⟩:=hx.shape;have hne:rows ≠ []:=by rintro rfl; simp at hb1; omega
      obtain ⟨b,off,rfl,h10,h11,h12,h13⟩:=h9 hne;refine b0 h5 hn hs (Below.refl _ _) (hex b off _ cap h6 hb0 hb1) fun _=>⟨0,b,_,rfl,h10,h11,fun q c hc=>?_⟩;have hj:n.toNat < rows.length:=by omega
      rw [List.getD_eq_getElem?_getD,List.getElem?_eq_getElem hj] at hc;obtain ⟨u,h14,h15⟩:=h13 n.toNat q c (bi.2 ⟨_,List.getElem?_eq_getElem hj,hc⟩);exact ⟨u,by rw [hsz2]; exact h14,h15⟩
     ·exact h5.elim
    ·exact h5.elim
def Ue (P:Program) (s:TypeId):Bool:=match P.underlying s with
 | some .string=>true
 | _=>false
def Qk (P:Program) (nn:Nat) (d:Option Nat) (s:TypeId) (x:Operand):Q:=opd x fun av=>match av with
 | .c (.p (.string b))=>if Ue P s = true then ig nn d (.c (.p (.int .i64 b.size))) else .fail
 | av=>match bp P s with
  | none=>.fail
  | some ti=>if ti.elem.isSome = true then (match av with
   | .ref r g p ag m=>if ag = false ∧ m = 1 then .hd r g p fun h=>(match h with
    | some (.own _ _ len)=>ig nn d (.c (.p (.int .i64 len)))
    | _=>.fail) else .fail
   | .c (.sl _ _ _ rows)=>ig nn d (.c (.p (.int .i64 rows.length)))
   | .c (.p (.slice _ n _))=>ig nn d (.c (.p (.int .i64 n)))
   | _=>.fail) else .fail
theorem Qj {s:TypeId} {x:Operand} (ho:o.op = .call { callee:=.builtin .len,args:=#[x],argTypes:=#[s] }):fh P nn o (Qk P nn o.dst s x):=by
 intro ct t e K w0 a w Qx _ hn hq ⟨val,S,hs⟩;obtain ⟨av,h1,h2,-⟩:=de hq hs
 have hexs:∀ b,P.underlying s = some .string → a.eval x = .string b → (execOp a.eval o).run P w = .ok (.value (.int .i64 b.size)) w:=fun b hu he=>by
  unfold execOp;simp only [ho,resolve,invoke,builtin,Sem.run_bind,Sem.run_pure,Result.andThen_ok,List.map_toArray,List.map_cons,List.map_nil,he,Builtin.len_];simp [run_underlying hu,goInt]
 have hex:∀ A n cap el,P.underlying s = some (.slice el) → a.eval x = .slice A n cap → (execOp a.eval o).run P w = .ok (.value (.int .i64 n)) w:=fun A n cap el hu he=>by
  unfold execOp;simp only [ho,resolve,invoke,builtin,Sem.run_bind,Sem.run_pure,Result.andThen_ok,List.map_toArray,List.map_cons,List.map_nil,he,Builtin.len_];simp [run_underlying hu,goInt]
 split at h1
 ·rename_i b
  split at h1
  ·rename_i hst
   have hu:P.underlying s = some .string:=by
    unfold Ue at hst;split at hst
    ·assumption
    ·cases hst
   exact b0 h1 hn hs (Below.refl _ _) (hexs b hu (fp (h2 rfl 0))) fun _=>⟨0,RO.p _⟩
  ·exact h1.elim
 ·split at h1
  ·exact h1.elim
  ·rename_i ti hti
   obtain ⟨i,u,z,hi,hu,hz,hsz,hby,hzz,hzs,hz1,hag,hel,hfi,hone,hpos⟩:=bl hti;split at h1
   ·rename_i hsome
    obtain ⟨el,hel0⟩:=Option.isSome_iff_exists.1 hsome
    have hus:P.underlying s = some (.slice el):=by
     rw [hu];rw [hel0] at hel;cases u <;> simp [ji] at hel;rw [hel]
    split at h1
    ·rename_i r g p ag m
     split at h1
     ·rename_i hh
      obtain ⟨rfl,rfl⟩:=hh;have h6:=h1.2;dsimp only at h6;split at h6
      ·rename_i t1 k len hc
       obtain ⟨hfr,cn,c,g1,g2,g3,g4⟩:=Ol hs hc;obtain ⟨hg,hv⟩:=h2 rfl 0
       cases c with
       | p v=>simp [C.hd] at g3
       | hole=>simp [C.hd] at g3
       | sl own t2 k2 rows2 =>
        cases own with
        | false=>simp [C.hd] at g3
        | true =>
         simp only [C.hd,Hd.own.injEq] at g3;obtain ⟨rfl,rfl,rfl⟩:=g3
         obtain ⟨-,hv⟩:=hv fun i hi=>by
          have:i = 0:=by omega
          subst this;exact hfr
         obtain ⟨-,-,g5⟩:=g4
         rcases g5 with ⟨rfl,g5⟩ | ⟨b,o2,cap,cur,g5,-⟩
         ·exact b0 h6 hn hs (Below.refl _ _) (hex _ _ _ el hus (hv.trans g5)) fun _=>⟨0,RO.p _⟩
         ·exact b0 h6 hn hs (Below.refl _ _) (hex _ _ _ el hus (hv.trans g5)) fun _=>⟨0,RO.p _⟩
      ·exact h6.elim
     ·exact h1.elim
    ·rename_i own t1 k rows _
     have hx:RO w S (.sl own t1 k rows) (a.eval x):=h2 rfl 0;obtain ⟨A,cap,h6,-⟩:=hx.shape;exact b0 h1 hn hs (Below.refl _ _) (hex _ _ _ el hus h6) fun _=>⟨0,RO.p _⟩
    ·rename_i A n cap
     exact b0 h1 hn hs (Below.refl _ _) (hex _ _ _ el hus (fp (h2 rfl 0))) fun _=>⟨0,RO.p _⟩
    ·exact h1.elim
   ·exact h1.elim
end
end
end Go.Proofs.YtfknckinfcicbaaGreat

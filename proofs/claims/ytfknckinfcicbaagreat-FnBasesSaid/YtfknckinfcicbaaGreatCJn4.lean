/- Parts of the proof. -/
import Derived.Test.YtfknckinfcicbaaGreatCJn3
import Derived.Laws.StructEq
set_option linter.unusedSimpArgs false
set_option linter.unusedVariables false
namespace Go.Proofs.YtfknckinfcicbaaGreat
section
open Go Go.RowKit
def binV (op:BinOp) (x y:Value):Option Value:=match x,y with
 | .int k a,.int k' b=>if k = k' then (match op with
  | .add=>some (.int k (k.wrap (a + b)))
  | .sub=>some (.int k (k.wrap (a - b)))
  | .mul=>some (.int k (k.wrap (a * b)))
  | .quo=>if b = 0 then none else some (.int k (k.wrap (a.tdiv b)))
  | .rem=>if b = 0 then none else some (.int k (a.tmod b))
  | .eql=>some (.bool (a == b))
  | .neq=>some (.bool (a != b))
  | .lss=>some (.bool (a < b))
  | .leq=>some (.bool (a ≤ b))
  | .gtr=>some (.bool (a > b))
  | .geq=>some (.bool (a ≥ b))
  | _=>none) else none
 | .string a,.string b=>match op with
  | .add=>if a.size + b.size ≤ 4611686018427387904 then some (.string (a ++ b)) else none
  | .eql=>some (.bool (a.toList == b.toList))
  | .neq=>some (.bool (!(a.toList == b.toList)))
  | _=>none
 | _,_=>none
theorem Ve {P:Program} {w:World} {op:BinOp} {ty:TypeId} {ox oy:Operand} {x y v:Value} (h:binV op x y = some v):((do eqGuard op ty ox oy x y; binOp op ty x y:Sem Value)).run P w = .ok v w:=by
 have hg:(eqGuard op ty ox oy x y).run P w = .ok () w:=by
  unfold binV at h;split at h
  ·unfold eqGuard; split <;> rfl
  ·unfold eqGuard; split <;> rfl
  ·cases h
 rw [Sem.run_bind,hg];simp only [Result.andThen_ok];unfold binV at h;split at h
 ·rename_i k a k' b
  split at h
  ·rename_i hk
   subst hk
   cases op <;> simp only at h <;> first
    | (cases h; done)
    | (cases h; simp [binOp,Op.intArith]; done)
    | (cases h; simp [binOp,Op.intCmp]; done)
    | (split at h
       ·cases h
       ·rename_i hb
        cases h
        simp [binOp,Op.intDiv,hb])
  ·cases h
 ·rename_i a b
  cases op <;> simp only at h <;> first
   | (cases h; done)
   | (cases h; simp [binOp,Op.stringOp]; done)
   | (split at h
      ·rename_i hb
       cases h
       have:¬ (((a.size + b.size:Nat):Int) > IntKind.i64.max):=by
        have:IntKind.i64.max = 9223372036854775807:=by decide
        rw [this]; omega
       simp only [binOp,Op.stringOp];rw [if_neg this];rfl
      ·cases h)
 ·cases h
def Db (P:Program) (ty:TypeId):Bool:=match P.underlying ty with
 | some .bool=>true
 | _=>false
def boolV (P:Program) (op:BinOp) (ty:TypeId) (x y:Value):Option Value:=match op,x,y with
 | .eql,.bool a,.bool b=>if Db P ty = true then some (.bool (a == b)) else none
 | .neq,.bool a,.bool b=>if Db P ty = true then some (.bool (!(a == b))) else none
 | _,_,_=>none
def jcz (k:IntKind) (a b:Int):Int:=k.wrap (BitVec.ofInt k.bits a &&& BitVec.ofInt k.bits b).toNat
def orI (k:IntKind) (a b:Int):Int:=k.wrap (BitVec.ofInt k.bits a ||| BitVec.ofInt k.bits b).toNat
def shV (op:BinOp) (x y:Value):Option Value:=match op,x,y with
 | .shl,.int k a,.int _ b=>if b < 0 then none else some (.int k (k.wrap (a * 2 ^ min b.toNat k.bits)))
 | .shr,.int k a,.int _ b=>if b < 0 then none else some (.int k (a.fdiv (2 ^ min b.toNat k.bits)))
 | .and,.int k a,.int k' b=>if k = k' then some (.int k (jcz k a b)) else none
 | .or,.int k a,.int k' b=>if k = k' then some (.int k (orI k a b)) else none
 | _,_,_=>none
theorem f8 {P:Program} {w:World} {op:BinOp} {ty:TypeId} {ox oy:Operand} {x y:Value} (hx:(∃ b,x = .bool b) ∨ ∃ k n,x = .int k n):(eqGuard op ty ox oy x y).run P w = .ok () w:=by
 unfold eqGuard
 rcases hx with ⟨b,rfl⟩ | ⟨k,n,rfl⟩ <;> split <;> rfl
theorem Q7 {P:Program} {w:World} {op:BinOp} {ty:TypeId} {ox oy:Operand} {x y v:Value} (h:boolV P op ty x y = some v):((do eqGuard op ty ox oy x y; binOp op ty x y:Sem Value)).run P w = .ok v w:=by
 have ht:∀ {a b:Bool} {c:Value},(if Db P ty = true then some c else none) = some v → P.underlying ty = some .bool ∧ c = v:=fun {a b c} h=>by
  split at h
  ·rename_i hb
   refine ⟨?_,Option.some.inj h⟩;unfold Db at hb;split at hb
   ·assumption
   ·cases hb
  ·cases h
 unfold boolV at h;split at h
 ·rename_i a b
  obtain ⟨hu,rfl⟩:=ht (a:=a) (b:=b) h;rw [Sem.run_bind,f8 (.inl ⟨_,rfl⟩)];simp only [Result.andThen_ok,binOp,Sem.run_bind,run_equal_bool w ty a b hu,Sem.run_pure]
 ·rename_i a b
  obtain ⟨hu,rfl⟩:=ht (a:=a) (b:=b) h;rw [Sem.run_bind,f8 (.inl ⟨_,rfl⟩)];simp only [Result.andThen_ok,binOp,Sem.run_bind,run_equal_bool w ty a b hu,Sem.run_pure]
 ·cases h
theorem Wg {P:Program} {w:World} {op:BinOp} {ty:TypeId} {ox oy:Operand} {x y v:Value} (h:shV op x y = some v):((do eqGuard op ty ox oy x y; binOp op ty x y:Sem Value)).run P w = .ok v w:=by
 unfold shV at h;split at h
 ·rename_i k a k' b
  split at h
  ·cases h
  ·rename_i hb
   cases h;rw [Sem.run_bind,f8 (.inr ⟨_,_,rfl⟩)];simp [binOp,Op.shift,hb]
 ·rename_i k a k' b
  split at h
  ·cases h
  ·rename_i hb
   cases h;rw [Sem.run_bind,f8 (.inr ⟨_,_,rfl⟩)];simp [binOp,Op.shift,hb]
 ·rename_i k a k' b
  split at h
  ·rename_i hk
   subst hk;cases h;rw [Sem.run_bind,f8 (.inr ⟨_,_,rfl⟩)];simp [binOp,Op.intBits,jcz]
  ·cases h
 ·rename_i k a k' b
  split at h
  ·rename_i hk
   subst hk;cases h;rw [Sem.run_bind,f8 (.inr ⟨_,_,rfl⟩)];simp [binOp,Op.intBits,orI]
  ·cases h
 ·cases h
def so (P:Program) (ty:TypeId):Option (List Nat):=match P.underlying ty with
 | some (.struct fs) => if P.stoodInHeld ty = false ∧ P.eqGuardType P.depth ty = false ∧ fs.toList.all (fun f => f.name != "_" && (match P.underlying f.type with
  | some (.int _)=>true
  | _=>false)) = true then some (fs.toList.map (·.offset)) else none
 | _=>none
def eqOffs (xs ys:List C):List Nat → Option Bool
 | []=>some true
 | i :: l=>match xs[i]?,ys[i]? with
  | some (.p (.int k a)),some (.p (.int k' b))=>if k = k' then (match eqOffs xs ys l with
   | some r=>some (a == b && r)
   | none=>none) else none
  | _,_=>none
theorem Iq {P:Program} {w:World} {ty:TypeId} {k:IntKind} {xs:Array Value} {off:Nat} {v:Value} (hu:P.underlying ty = some (.int k)) (hx:xs[off]? = some v):(part ty xs off).run P w = .ok v w:=by
 have ha:(isAgg ty).run P w = .ok false w:=by
  simp only [isAgg,Sem.run_bind,run_underlying hu,Result.andThen_ok]; rfl
 simp only [part,Sem.run_bind,ha,Result.andThen_ok,hx];simp
theorem pj {P : Program} {w : World} {S : Nat → Prop} {xs ys : List C} {va vb : Array Value} (hx : ROs w S xs va) (hy : ROs w S ys vb) (d : Nat) : ∀ (fs : List Field) (r : Bool), (fs.all (fun f => f.name != "_" && (match P.underlying f.type with
 | some (.int _)=>true
 | _=>false)) = true) → eqOffs xs ys (fs.map (·.offset)) = some r → (Op.eqFields (d + 1) va vb fs).run P w = .ok r w
 | [],r,_,h=>by cases h; rfl
 | f :: fs,r,hf,h=>by
  rw [List.all_cons,Bool.and_eq_true,Bool.and_eq_true] at hf;obtain ⟨⟨h1,h2⟩,h3⟩:=hf
  have hk:∃ k,P.underlying f.type = some (.int k):=by
   split at h2
   ·exact ⟨_,by assumption⟩
   ·cases h2
  obtain ⟨k0,hk⟩:=hk;rw [List.map_cons] at h;unfold eqOffs at h;split at h
  ·rename_i k a k' b e1 e2
   split at h
   ·rename_i hkk
    subst hkk;split at h
    ·rename_i r' hr'
     cases h;obtain ⟨u,g1,g2⟩:=hx.2 _ _ e1;obtain ⟨u',g3,g4⟩:=hy.2 _ _ e2;have q1:u = .int k a:=by cases g2; rfl
     have q2:u' = .int k b:=by cases g4; rfl
     subst q1 q2;have ih:=pj hx hy d fs r' h3 hr';unfold Op.eqFields;rw [if_pos (by simpa using h1)];simp only [Sem.run_bind,Iq hk g1,Iq hk g3,Result.andThen_ok,run_equalIn_int w d f.type k k0 a b hk]
     cases hab:(a == b) with
     | true=>simp [ih]
     | false=>simp
    ·cases h
   ·cases h
  ·cases h
theorem Co {P : Program} {ty : TypeId} {l : List Nat} (h : so P ty = some l) : P.underlying ty = some (.struct (P.fieldsOf ty)) ∧ P.stoodInHeld ty = false ∧ P.eqGuardType P.depth ty = false ∧ (P.fieldsOf ty).toList.all (fun f => f.name != "_" && (match P.underlying f.type with
 | some (.int _)=>true
 | _=>false)) = true ∧ l = (P.fieldsOf ty).toList.map (·.offset):=by
 unfold so at h;split at h
 ·rename_i fs hu
  have hfs:P.fieldsOf ty = fs:=by unfold Program.fieldsOf; rw [hu]
  split at h
  ·rename_i hh
   cases h;rw [hfs];exact ⟨hu,hh.1,hh.2.1,hh.2.2,rfl⟩
  ·cases h
 ·cases h
def binAV (P:Program) (op:BinOp) (ty:TypeId) (x y:AV):Option Value:=match x,y with
 | .c (.p u),.c (.p v)=>(match binV op u v with
  | some z=>some z
  | none=>match boolV P op ty u v with
   | some z=>some z
   | none=>shV op u v)
 | .agg xs,.agg ys=>(match so P ty with
  | none=>none
  | some l=>match op with
   | .eql=>(match eqOffs xs ys l with
    | some r=>some (.bool r)
    | none=>none)
   | .neq=>(match eqOffs xs ys l with
    | some r=>some (.bool (!r))
    | none=>none)
   | _=>none)
 | _,_=>none
def unV (op:UnOp) (x:Value):Option Value:=match op,x with
 | .not,.bool b=>some (.bool (!b))
 | .neg,.int k n=>some (.int k (k.wrap (0 - n)))
 | _,_=>none
theorem Wd {P:Program} {w:World} {op:UnOp} {x v:Value} (h:unV op x = some v):(Op.unary op x).run P w = .ok v w:=by
 unfold unV at h;split at h
 ·cases h; rfl
 ·cases h; rfl
 ·cases h
def uh (av:AV) (k:Value → Q):Q:=match av with
 | .c (.p v)=>k v
 | _=>.fail
def Rb (P:Program) (nn:Nat) (d:Option Nat) (op:BinOp) (ty:TypeId) (x y:Operand):Q:=opd x fun av=>opd y fun av2=>match binAV P op ty av av2 with
 | some z=>ig nn d (.c (.p z))
 | none=>.fail
def unQ (nn:Nat) (d:Option Nat) (op:UnOp) (x:Operand):Q:=opd x fun av=>uh av fun u=>match unV op u with
 | some z=>ig nn d (.c (.p z))
 | none=>.fail
def nx (r g:Nat) (p:aj):Nat → (List C → Q) → Q
 | 0,k=>k []
 | n + 1,k=>nx r g p n fun cs=>.sub r g (a6 p n) fun c=>match c with
  | some c=>k (cs ++ [c])
  | none=>.fail
def holesU (r:Nat) (p:aj):Nat → List Upd
 | 0=>[]
 | n + 1=>holesU r p n ++ [.put r (a6 p n) .hole]
def ta (nn:Nat) (d:Option Nat) (x:Operand):Q:=opd x fun av=>match av with
 | .ref r g p ag n=>if d ≠ some r ∧ 0 < n ∧ (ag = false → n = 1) then nx r g p n fun cs=>o5 nn d (holesU r p n) (.own ag n) (oneCon ⟨none,cs⟩) else .fail
 | av=>ig nn d av
theorem fv (us vs:List Upd) (e:Env):upds (us ++ vs) e = upds vs (upds us e):=by
 induction us generalizing e with
 | nil=>rfl
 | cons u us ih=>exact ih _
theorem gh (r:Nat) (p:aj) (e:Env):∀ n,upds (holesU r p n) e = e.holes r p n
 | 0=>rfl
 | n + 1=>by
  unfold holesU;rw [fv,gh r p e n];rfl
section
variable {P:Program} {nn:Nat} {o:Oper} {ct:Cts} {t:Option Stat} {e:Env} {K:Env → Prop} {w0:Base} {a:Act} {w:World} {val:Val} {S:Nat → Prop} {Qx:Exit → Act → World → Prop}
theorem K8 {av:AV} {k:Value → Q} (h:ah ct t (uh av k) e K):∃ v,av = .c (.p v) ∧ ah ct t (k v) e K:=by
 unfold uh at h;split at h
 ·exact ⟨_,rfl,h⟩
 ·exact h.elim
theorem Ra {op:BinOp} {ty ty2:TypeId} {x y:Operand} (ho:o.op = .binOp op ty x y ty2):fh P nn o (Rb P nn o.dst op ty x y):=by
 intro ct t e K w0 a w Qx _ hn hq ⟨val,S,hs⟩;obtain ⟨av,h1,h2,-⟩:=de hq hs;obtain ⟨av2,h4,h5,-⟩:=de h1 hs;split at h4
 ·rename_i z hz
  have hrun:((do eqGuard op ty x y (a.eval x) (a.eval y); binOp op ty (a.eval x) (a.eval y):Sem Value)).run P w = .ok z w:=by
   unfold binAV at hz;split at hz
   ·rename_i u v
    have hx:a.eval x = u:=fp (h2 rfl 0);have hy:a.eval y = v:=fp (h5 rfl 0);rw [hx,hy];split at hz
    ·rename_i z' hz'; cases hz; exact Ve hz'
    ·split at hz
     ·rename_i z' hz'; cases hz; exact Q7 hz'
     ·exact Wg hz
   ·rename_i xs ys
    obtain ⟨va,hx,hxs⟩:=h2 rfl 0;obtain ⟨vb,hy,hys⟩:=h5 rfl 0;rw [hx,hy];split at hz
    ·cases hz
    ·rename_i l hl
     obtain ⟨g1,g2,g3,g4,rfl⟩:=Co hl;rw [Sem.run_bind,run_eqGuard_agg w op ty x y va vb g3];simp only [Result.andThen_ok];split at hz
     ·split at hz
      ·rename_i r hr
       cases hz;rw [run_eql_struct,run_equalIn_agg w 9999 ty va vb g1 g2,pj hxs hys 9998 _ r g4 hr];rfl
      ·cases hz
     ·split at hz
      ·rename_i r hr
       cases hz;rw [run_neq_struct,run_equalIn_agg w 9999 ty va vb g1 g2,pj hxs hys 9998 _ r g4 hr];rfl
      ·cases hz
     ·cases hz
   ·cases hz
  refine b0 h4 hn hs (Below.refl _ _) (v:=z) ?_ fun _=>⟨0,RO.p z⟩;unfold execOp;simp only [ho];rw [Sem.run_bind,hrun];rfl
 ·exact h4.elim
theorem Sb {op:UnOp} {ty:TypeId} {x:Operand} (ho:o.op = .unOp op ty x):fh P nn o (unQ nn o.dst op x):=by
 intro ct t e K w0 a w Qx _ hn hq ⟨val,S,hs⟩;obtain ⟨av,h1,h2,-⟩:=de hq hs;obtain ⟨u,rfl,h3⟩:=K8 h1;have hx:a.eval x = u:=fp (h2 rfl 0);split at h3
 ·rename_i z hz
  refine b0 h3 hn hs (Below.refl _ _) (v:=z) ?_ fun _=>⟨0,RO.p z⟩;unfold execOp;simp only [ho,hx];rw [Sem.run_bind,Wd hz];rfl
 ·exact h3.elim
theorem ls {r g:Nat} {p:aj} {c:C} (hc:e.sub r g p = some c):e.fresh r g p ∧ ∃ cn,e.con (r,0) = some cn ∧ look cn.xs p = some c:=by
 unfold Env.sub at hc;split at hc
 ·rename_i hok
  refine ⟨i4 hok,?_⟩;split at hc
  ·rename_i cn hcn; exact ⟨cn,hcn,hc⟩
  ·cases hc
 ·cases hc
theorem iy {r g:Nat} {p:aj}:∀ (n:Nat) {k:List C → Q},ah ct t (nx r g p n k) e K → ∃ cs:List C,cs.length = n ∧ (∀ (i:Nat) (c:C),cs[i]? = some c → e.sub r g (a6 p i) = some c) ∧ ah ct t (k cs) e K
 | 0,k,h=>⟨[],rfl,fun i c h=>by simp at h,h⟩
 | n + 1,k,h=>by
  obtain ⟨cs,h1,h2,h3⟩:=iy n h;have h4:=h3.2
  cases hc:e.sub r g (a6 p n) with
  | none=>rw [hc] at h4; exact h4.elim
  | some c0 =>
   rw [hc] at h4;refine ⟨cs ++ [c0],by simp [h1],fun i x hx=>?_,h4⟩
   rcases Nat.lt_or_ge i cs.length with hi | hi
   ·rw [List.getElem?_append_left hi] at hx; exact h2 i x hx
   ·rw [List.getElem?_append_right hi] at hx
    have:i - cs.length = 0:=by
     rcases Nat.eq_zero_or_pos (i - cs.length) with h5 | h5
     ·exact h5
     ·rw [List.getElem?_eq_none (by simp; omega)] at hx; cases hx
    rw [this] at hx;simp at hx;subst hx;have:i = n:=by omega
    rw [this]; exact hc
theorem jq {r g:Nat} {p:aj} {cs:List C} (hl:0 < cs.length) (h:∀ (i:Nat) (c:C),cs[i]? = some c → e.sub r g (a6 p i) = some c):p ≠ [] ∧ ∃ cn,e.con (r,0) = some cn ∧ (∀ i,i < cs.length → e.fresh r g (a6 p i)) ∧ ∀ (i:Nat) (c:C),cs[i]? = some c → look cn.xs (a6 p i) = some c:=by
 obtain ⟨-,cn,h1,h2⟩:=ls (h 0 _ (List.getElem?_eq_getElem hl));refine ⟨eh h2,cn,h1,fun i hi=>(ls (h i _ (List.getElem?_eq_getElem hi))).1,fun i c hc=>?_⟩;obtain ⟨-,cn',h3,h4⟩:=ls (h i c hc);rw [h1] at h3;cases h3;exact h4
theorem Hf {x:Operand} (ho:o.op = .assign x ∨ o.op = .move x):fh P nn o (ta nn o.dst x):=by
 intro ct t e K w0 a w Qx _ hn hq ⟨val,S,hs⟩;obtain ⟨av,h1,h2,-⟩:=de hq hs
 have hex:(execOp a.eval o).run P w = .ok (.value (a.eval x)) w:=by
  unfold execOp
  rcases ho with ho | ho <;> rw [ho] <;> rfl
 split at h1
 ·rename_i r g p ag n
  split at h1
  ·rename_i hh
   obtain ⟨hd0,hpos,hag⟩:=hh;obtain ⟨cs,h3,h4,h5⟩:=iy _ h1;obtain ⟨d,hd,hdn,hK⟩:=fl h5;obtain ⟨hp,cn,h6,h7,h8⟩:=jq (by omega) h4;rw [gh] at hK;subst h3;refine dm hex ⟨_,hK,dx val r p d,S,?_⟩;rw [hd];exact hs.take hp (fun he=>hd0 (by rw [hd,he])) (by omega) h6 h8 h7 (fun s=>h2 rfl s) hag
  ·exact h1.elim
 ·exact b0 h1 hn hs (Below.refl _ _) hex fun hp=>⟨0,h2 hp 0⟩
end
end
section
open Go Go.RowKit
def putsU (r:Nat) (p:aj):Nat → List C → List Upd
 | _,[]=>[]
 | i,y :: ys=>.put r (a6 p i) y :: putsU r p (i + 1) ys
def Env.puts (e:Env) (r:Nat) (p:aj):Nat → List C → Env
 | _,[]=>e
 | i,y :: ys=>(e.put r (a6 p i) y).puts r p (i + 1) ys
theorem nu (r:Nat) (p:aj):∀ (ys:List C) (i:Nat) (e:Env),upds (putsU r p i ys) e = e.puts r p i ys
 | [],_,_=>rfl
 | y :: ys,i,e=>nu r p ys (i + 1) (e.put r (a6 p i) y)
def graftU (s:Nat) (p1:aj) (r:Nat) (p2:aj):Nat → List C → List Upd
 | _,[]=>[]
 | i,c :: cs=>.put s (a6 p1 i) .hole :: .put r (a6 p2 i) c :: graftU s p1 r p2 (i + 1) cs
def Env.grafts (e:Env) (s:Nat) (p1:aj) (r:Nat) (p2:aj):Nat → List C → Env
 | _,[]=>e
 | i,c :: cs=>((e.put s (a6 p1 i) .hole).put r (a6 p2 i) c).grafts s p1 r p2 (i + 1) cs
theorem j6 (s:Nat) (p1:aj) (r:Nat) (p2:aj):∀ (cs:List C) (i:Nat) (e:Env),upds (graftU s p1 r p2 i cs) e = e.grafts s p1 r p2 i cs
 | [],_,_=>rfl
 | c :: cs,i,e=>j6 s p1 r p2 cs (i + 1) ((e.put s (a6 p1 i) .hole).put r (a6 p2 i) c)
def ua (P:Program) (d:Option Nat) (ty:TypeId) (xa xv:Operand):Q:=match d,bp P ty with
 | none,some ti=>opd xa fun av=>opd xv fun av2=>match av with
  | .ptr r g p k=>match cellsOf ti.agg av2 with
   | some ys=>if ys.length = ti.size then pw r g p k ti.size fun _=>.ups (putsU r p 0 ys) else .fail
   | none=>match av2 with
    | .ref s g2 p2 ag n=>if ag = ti.agg ∧ n = ti.size ∧ s ≠ r ∧ (ag = false → n = 1) then pw r g p k ti.size fun _=>nx s g2 p2 n fun cs=>if cs.all C.one = true then .ups (putsU r p 0 (List.replicate n .hole) ++ graftU s p2 r p 0 cs) else .fail else .fail
    | _=>.fail
  | _=>.fail
 | _,_=>.fail
section
variable {P:Program} {nn:Nat} {o:Oper} {ct:Cts} {t:Option Stat} {e:Env} {K:Env → Prop} {w0:Base} {a:Act} {w:World} {val:Val} {S:Nat → Prop} {Qx:Exit → Act → World → Prop}
theorem Target.put {r:Nat} {pp:aj} {j q k b o q':Nat} {cn:Con} {y:C} {u:Value} (h:Target e val r pp j q k b o cn) (hpp:pp ≠ [] → True):Target (e.put r (pp ++ [(j,q)]) y) (ql val (r,0) (pp ++ [(j,q)]) u) r pp j q' k b o { cn with xs:=puts cn.xs y (pp ++ [(j,q)]) }:=by
 have hne:∀ p':aj,p' = pp → ¬ ((r,0) = (r,0) ∧ p' = pp ++ [(j,q)]):=fun p' hp hh=>by
  rw [hp] at hh;have:=congrArg List.length hh.2;simp at this
 rcases h with ⟨rfl,h1,h4,h2,h3⟩ | ⟨h1,⟨n,cap,h2⟩,h3⟩
 ·exact .inl ⟨rfl,h1,h4,by rw [dh (hne _ rfl)]; exact h2,h3⟩
 ·refine .inr ⟨h1,⟨n,cap,by rw [dh (hne _ rfl)]; exact h2⟩,fun t k' rows hl=>?_⟩
  have hhd:(look (puts cn.xs y (pp ++ [(j,q)])) pp).map C.hd = (look cn.xs pp).map C.hd:=Nn fun hh=>by
   have:=hh.length_le;simp at this;omega
  have hl':look (puts cn.xs y (pp ++ [(j,q)])) pp = some (.sl true t k' rows):=hl;rw [hl'] at hhd
  cases hl2:look cn.xs pp with
  | none=>rw [hl2] at hhd; cases hhd
  | some c =>
   rw [hl2] at hhd;simp only [Option.map_some,Option.some.injEq] at hhd
   cases c with
   | p v=>simp [C.hd] at hhd
   | hole=>simp [C.hd] at hhd
   | sl own t2 k2 rows2 =>
    cases own with
    | false=>simp [C.hd] at hhd
    | true =>
     simp only [C.hd,Hd.own.injEq] at hhd;rw [hhd.2.1];exact h3 t2 k2 rows2 hl2
theorem B0 {r:Nat} {pp:aj} {j q k b o:Nat}:∀ (vs:List Value) (ys:List C) (i:Nat) (e:Env) (w:World) (val:Val) (cn:Con),vs.length = ys.length → StV w0 e a w val S → e.con (r,0) = some cn → (∀ m,i ≤ m → m < i + vs.length → ∃ c,look cn.xs (pp ++ [(j,q + m)]) = some c) →
 Target e val r pp j q k b o cn → (∀ y ∈ ys,y.flat = true) → (∀ (m:Nat) (y:C),ys[m]? = some y → ∃ v,vs[m]? = some v ∧ RO w S y v) → (∀ v ∈ vs,v.oneCell' = true) →
 ∃ w' val' cn',(storeCells ⟨b,o + (j * k + q),none⟩ vs i).run P w = .ok () w' ∧ StV w0 (e.puts r (pp ++ [(j,q)]) i ys) a w' val' S ∧ (e.puts r (pp ++ [(j,q)]) i ys).con (r,0) = some cn' ∧
  (∀ (m:Nat) (v:Value),vs[m]? = some v → val' (r,0) (pp ++ [(j,q + (i + m))]) = v) ∧ (∀ (m:Nat) (y:C),ys[m]? = some y → look cn'.xs (pp ++ [(j,q + (i + m))]) = some y) ∧ (∀ m,m < i → val' (r,0) (pp ++ [(j,q + m)]) = val (r,0) (pp ++ [(j,q + m)])) ∧
  (∀ m c,m < i → look cn.xs (pp ++ [(j,q + m)]) = some c → look cn'.xs (pp ++ [(j,q + m)]) = some c) ∧ (∀ key,key ≠ (r,0) → val' key = val key ∧ (e.puts r (pp ++ [(j,q)]) i ys).con key = e.con key)
 | [],[],i,e,w,val,cn,_,hs,hc,_,_,_,_,_=>⟨w,val,cn,rfl,hs,hc,fun m v h=>by simp at h,fun m y h=>by simp at h,fun _ _=>rfl,fun _ _ _ h=>h,fun _ _=>⟨rfl,rfl⟩⟩
 | [],y :: ys,_,_,_,_,_,hl,_,_,_,_,_,_,_=>by simp at hl
 | v :: vs,[],_,_,_,_,_,hl,_,_,_,_,_,_,_=>by simp at hl
 | v :: vs,y :: ys,i,e,w,val,cn,hl,hs,hc,hlk,ha,hf,hv,h1=>by
  obtain ⟨c0,hc0⟩:=hlk i (Nat.le_refl _) (by simp);obtain ⟨v',hv',hro⟩:=hv 0 y rfl;cases hv'
  have ha':Target e val r pp j (q + i) k b o cn:=by
   rcases ha with ha | ha
   ·exact .inl ha
   ·exact .inr ha
  have hput:=hs.putC hc hc0 ha' (hf y (by simp)) hro;obtain ⟨hown,cur,ty,hb,hcur,-⟩:=hs.own_block hc hc0 ha';have hcell:w.cell? ⟨b,o + (j * k + (q + i)),none⟩ = some (val (r,0) (pp ++ [(j,q + i)])):=by rw [cell_of_row w b _ cur ty (0,0) hb]; exact hcur
  have hfr:w.frozen? ⟨b,o + (j * k + (q + i)),none⟩ = false:=by simp [World.frozen?,hb]
  have hone:v.oneCell' = true:=h1 v (by simp);have hc':(e.put r (pp ++ [(j,q + i)]) y).con (r,0) = some { cn with xs:=puts cn.xs y (pp ++ [(j,q + i)]) }:=by simp [Env.put,hc]
  have hmono:∀ b',S b' → b' < w.heap.size → (w.setCell ⟨b,o + (j * k + (q + i)),none⟩ v).heap[b']? = w.heap[b']?:=fun b' hsb _=>Below.heap_setCell _ _ _ _ fun he=>by
   subst he;exact (hs.mem.sep _ hsb).2 _ _ hown
  have hcellP:a6 (pp ++ [(j,q)]) i = pp ++ [(j,q + i)]:=c9 _ _ _ _
  have hap:∀ m,m ≠ i → ¬ pp ++ [(j,q + i)] <+: pp ++ [(j,q + m)] ∧ ¬ pp ++ [(j,q + m)] <+: pp ++ [(j,q + i)]:=fun m hm=>by
   constructor <;> intro hh
   ·have:=List.append_cancel_left (hh.eq_of_length (by simp)); simp at this; omega
   ·have:=List.append_cancel_left (hh.eq_of_length (by simp)); simp at this; omega
  obtain ⟨w',val',cn',k1,k2,k3,k4,k5,k6,k7,k8⟩:=B0 vs ys (i + 1) (e.put r (pp ++ [(j,q + i)]) y) (w.setCell ⟨b,o + (j * k + (q + i)),none⟩ v) (ql val (r,0) (pp ++ [(j,q + i)]) v) _ (by simpa using hl) hput hc'
   (fun m hm hm'=>by
     obtain ⟨c,hc2⟩:=hlk m (by omega) (by simp; omega)
     exact ⟨c,by rw [gk (hap m (by omega)).1 (hap m (by omega)).2]; exact hc2⟩)
   (by
     have:=ha'.put (q':=q) (y:=y) (u:=v) (fun _=>trivial)
     exact this) (fun y hy=>hf y (by simp [hy])) (fun m y' hy=>by
     obtain ⟨v2,g1,g2⟩:=hv (m + 1) y' (by simpa using hy)
     exact ⟨v2,by simpa using g1,g2.keep (fun _ h _=>h) hmono⟩) (fun v hv=>h1 v (by simp [hv]))
  have hpt:look (puts cn.xs y (pp ++ [(j,q + i)])) (pp ++ [(j,q + i)]) = some y:=by
   have:=yq (y:=y) hc0 [];rwa [List.append_nil,da] at this
  refine ⟨w',val',cn',?_,?_,?_,fun m v2 hm=>?_,fun m y2 hm=>?_,fun m hm=>?_,fun m c hm hc2=>?_,fun key hk=>?_⟩
  ·unfold storeCells;rw [jn,show o + (j * k + q) + i = o + (j * k + (q + i)) by omega,Sem.run_bind,run_store P w _ v .plain hone,hcell];simp only [hfr];exact k1
  ·show StV w0 ((e.put r (a6 (pp ++ [(j,q)]) i) y).puts r (pp ++ [(j,q)]) (i + 1) ys) a w' val' S;rw [hcellP]; exact k2
  ·show ((e.put r (a6 (pp ++ [(j,q)]) i) y).puts r (pp ++ [(j,q)]) (i + 1) ys).con (r,0) = _;rw [hcellP]; exact k3
  ·cases m with
   | zero =>
    simp at hm;subst hm;have:=k6 i (by omega);rw [Nat.add_zero,this,vy]
   | succ m =>
    have:=k4 m v2 (by simpa using hm);rw [show i + (m + 1) = i + 1 + m by omega]; exact this
  ·cases m with
   | zero =>
    simp at hm;subst hm;rw [Nat.add_zero];exact k7 i y (by omega) hpt
   | succ m =>
    have:=k5 m y2 (by simpa using hm);rw [show i + (m + 1) = i + 1 + m by omega]; exact this
  ·rw [k6 m (by omega),dh fun hh=>by
    have:=List.append_cancel_left hh.2;simp at this
    omega]
  ·exact k7 m c (by omega) (by rw [gk (hap m (by omega)).1 (hap m (by omega)).2]; exact hc2)
  ·obtain ⟨g1,g2⟩:=k8 key hk;refine ⟨?_,?_⟩
   ·rw [g1]; funext p; exact dh fun hh=>hk hh.1
   ·show ((e.put r (a6 (pp ++ [(j,q)]) i) y).puts r (pp ++ [(j,q)]) (i + 1) ys).con key = _;rw [hcellP,g2]; simp [Env.put,hk]
theorem jm {p:aj} (hp:p ≠ []) {i i':Nat} (h:i ≠ i'):¬ a6 p i <+: a6 p i':=fun hh=>h (r6 hp hh)
theorem l7 {s r:Nat} {p1 p2:aj} (hsr:s ≠ r) (hp1:p1 ≠ []) (hp2:p2 ≠ []):∀ (cs:List C) (i:Nat) (e:Env) (val:Val) (cn1 cn2:Con),StV w0 e a w val S → e.con (s,0) = some cn1 → e.con (r,0) = some cn2 →
 (∀ (m:Nat) (c:C),cs[m]? = some c → look cn1.xs (a6 p1 (i + m)) = some c ∧ look cn2.xs (a6 p2 (i + m)) = some .hole ∧ val (r,0) (a6 p2 (i + m)) = val (s,0) (a6 p1 (i + m))) →
 ∃ val',StV w0 (e.grafts s p1 r p2 i cs) a w val' S
 | [],_,_,val,_,_,hs,_,_,_=>⟨val,hs⟩
 | c :: cs,i,e,val,cn1,cn2,hs,h1,h2,h3=>by
  obtain ⟨g1,g2,g3⟩:=h3 0 c rfl;rw [Nat.add_zero] at g1 g2 g3;have hg:=hs.graft hsr h1 h2 g1 g2 g3;have hrs:(r,0) ≠ (s,0):=fun hh=>hsr (by simpa using hh.symm);refine l7 hsr hp1 hp2 cs (i + 1) _ _ { cn1 with xs:=puts cn1.xs .hole (a6 p1 i) } { cn2 with xs:=puts cn2.xs c (a6 p2 i) } hg (by simp [Env.put,hsr,h1]) (by simp [Env.put,Ne.symm hsr,h2]) fun m c' hm=>?_;obtain ⟨k1,k2,k3⟩:=h3 (m + 1) c' (by simpa using hm);rw [show i + (m + 1) = i + 1 + m by omega] at k1 k2 k3;have hne:i ≠ i + 1 + m:=by omega
  refine ⟨by rw [gk (jm hp1 hne) (jm hp1 (Ne.symm hne))]; exact k1,by rw [gk (jm hp2 hne) (jm hp2 (Ne.symm hne))]; exact k2,?_⟩;unfold et;rw [if_neg fun hh=>jm hp2 hne hh.2,if_neg fun hh=>hrs (by simpa using hh.1.symm)];exact k3
theorem zi {ty:TypeId} {i:TypeInfo} {b off:Nat} {v:Value} {w':World} (hi:P.info? ty = some i) (hz:i.size = v.cells.size) (h:(storeCells ⟨b,off,none⟩ v.cells.toList 0).run P w = .ok () w'):(Instr.storeAt ty (.pointer (some ⟨b,off,none⟩)) v).run P w = .ok () w':=by
 unfold Instr.storeAt Instr.sureAddr storeVar;simp only [Sem.run_bind,Sem.run_pure,Result.andThen_ok,o6 hi];rw [if_neg (by omega)];exact h
theorem n6 {va:aj → Value} {p:aj} {c:C} (hno:NodeOk w S va p c) (h1c:c.one = true):(va p).oneCell' = true ∧ (va p).cells = #[va p]:=by
 cases c with
 | p v =>
  have:va p = v:=hno;rw [this];exact B7 (S:=S) (w:=w) (RO.p v) h1c
 | hole=>cases h1c
 | sl own t k rows =>
  cases own with
  | false=>exact B7 (show RO w S _ _ from hno) rfl
  | true =>
   obtain ⟨-,-,hh | ⟨b2,o2,cap2,cur2,hh,-⟩⟩:=hno
   ·rw [hh.2]; exact ⟨rfl,rfl⟩
   ·rw [hh]; exact ⟨rfl,rfl⟩
theorem H7 {ty ty2:TypeId} {xa xv:Operand} (ho:o.op = .store ty xa xv):fh P nn o (ua P o.dst ty xa xv):=by
 intro ct t e K w0 a w Qx _ hn hq ⟨val,S,hs⟩;unfold ua at hq;split at hq
 ·rename_i ti hd hti
  obtain ⟨i,u,z,hi,hu,hz,hsz,hby,hzz,hzs,hz1,hag,hel,hfi,hone,hpos⟩:=bl hti;obtain ⟨av,h1,h2,-⟩:=de hq hs;obtain ⟨av2,h3,h4,-⟩:=de h1 hs
  have hfin:∀ w' (e':Env) val',K e' → (Instr.storeAt ty (a.eval xa) (a.eval xv)).run P w = .ok () w' → StV w0 e' a w' val' S → o.wp P a w (fun a' w'=>∃ e',K e' ∧ St w0 e' a' w') Qx:=fun w' e' val' hK hr hst=>by
   refine R0 (w':=w') ?_ ⟨e',hK,val',S,by rw [hd]; exact hst⟩;unfold execOp;simp only [ho,Sem.run_bind,hr,Result.andThen_ok];rfl
  split at h3
  ·rename_i r g p k
   have hv:=h2 rfl 0;split at h3
   ·rename_i ys hys
    obtain ⟨hf,hros,hone1,-⟩:=ia hys fun hp=>h4 hp 0;split at h3
    ·rename_i hlen
     obtain ⟨hds,g1,g2,g3⟩:=pv _ h3;obtain ⟨pp,j,q,b,o2,cn,rfl,g5,g6,g7,g8⟩:=jw hs hv (by omega) g2;have hK:=g3.2;rw [nu] at hK
     obtain ⟨w',val',cn',k1,k2,-⟩:=B0 (P:=P) (a.eval xv).cells.toList ys 0 e w val cn (by have:=hros.1; simp; omega) hs g6 (fun m _ hm=>by
      have hml:m < hds.length:=by have:=hros.1; simp at hm; omega
      obtain ⟨c,hc,-⟩:=g8 m hds[m] (List.getElem?_eq_getElem hml)
      exact ⟨c,hc⟩) g7 hf (fun m y hy=>by
      obtain ⟨u2,hu1,hu2⟩:=hros.2 m y hy
      exact ⟨u2,by simpa using hu1,hu2⟩) hone1
     refine hfin w' _ val' hK ?_ k2;rw [g5];exact zi hi (by rw [hsz,← hlen]; exact hros.1.symm) k1
    ·exact h3.elim
   ·split at h3
    ·rename_i s g2 p2 ag n hnone
     split at h3
     ·rename_i hh
      obtain ⟨rfl,rfl,hsr,hag1⟩:=hh;obtain ⟨hds,g1,g3,g4⟩:=pv _ h3;obtain ⟨cs,g5,g6,g7⟩:=iy _ g4;split at g7
      ·rename_i hall
       obtain ⟨pp,j,q,b,o2,cn,rfl,k1,k2,k3,k4⟩:=jw hs hv (by omega) g3;obtain ⟨hp2,cn2,k5,k6,k7⟩:=jq (by omega) g6;obtain ⟨-,hv2⟩:=h4 rfl 0;have hv2:=hv2 fun i hi=>k6 i (by omega);have hK:=g7.2;rw [fv,nu,j6] at hK
       have hvs:∃ vs:Array Value,(a.eval xv).cells = vs ∧ vs.size = ti.size ∧ ∀ i,i < ti.size → vs[i]? = some (val (s,0) (a6 p2 i)):=by
        cases hagv:ti.agg with
        | false =>
         rw [hagv] at hv2;obtain ⟨hn1,hv3⟩:=hv2
         have hone2:(a.eval xv).oneCell' = true ∧ (a.eval xv).cells = #[a.eval xv]:=by
          have hc00:0 < cs.length:=by omega
          have hc0:=k7 0 cs[0] (List.getElem?_eq_getElem hc00);have hno:=hs.mem.node _ _ _ _ k5 hc0;rw [b8] at hno;rw [hv3];exact n6 hno (List.all_eq_true.1 hall _ (List.getElem_mem _))
         refine ⟨#[a.eval xv],hone2.2,by simp; omega,fun i hi=>?_⟩;have:i = 0:=by omega
         subst this;rw [b8,← hv3]; rfl
        | true =>
         rw [hagv] at hv2;obtain ⟨vs,hv3,hv4,hv5⟩:=hv2;exact ⟨vs,by rw [hv3]; rfl,hv4,hv5⟩
       obtain ⟨vs,hvs1,hvs2,hvs3⟩:=hvs
       have hone3:∀ v ∈ vs.toList,v.oneCell' = true:=fun v hvm=>by
        obtain ⟨i,hi,rfl⟩:=List.getElem_of_mem hvm;have hi':i < ti.size:=by rw [← hvs2]; simpa using hi
        have hvi:=hvs3 i hi';have he:vs[i]? = some vs.toList[i]:=by rw [← Array.getElem?_toList,List.getElem?_eq_getElem hi]
        rw [he] at hvi;have hvv:=Option.some.inj hvi;have hci:i < cs.length:=by omega
        have hc0:=k7 i cs[i] (List.getElem?_eq_getElem hci);have hno:=hs.mem.node _ _ _ _ k5 hc0;rw [hvv];exact (n6 hno (List.all_eq_true.1 hall _ (List.getElem_mem _))).1
       obtain ⟨w',val',cn',m1,m2,m3,m4,m5,m6,m7,m8⟩:=B0 (P:=P) vs.toList (List.replicate ti.size .hole) 0 e w val cn (by simp [hvs2]) hs k2 (fun m _ hm=>by
        have hml:m < hds.length:=by simp [hvs2] at hm; omega
        obtain ⟨c,hc,-⟩:=k4 m hds[m] (List.getElem?_eq_getElem hml)
        exact ⟨c,hc⟩) k3 (fun y hy=>by rw [List.eq_of_mem_replicate hy]; rfl) (fun m y hy=>by
        have hm:m < ti.size:=by have:=(List.getElem?_eq_some_iff.1 hy).1; simpa using this
        rw [List.eq_of_mem_replicate (List.mem_of_getElem? hy)]
        exact ⟨vs.toList[m]'(by simp [hvs2,hm]),by rw [List.getElem?_eq_getElem],.hole _⟩) hone3
       have hsk:(s,0) ≠ (r,0):=fun hh=>hsr (by simpa using hh);obtain ⟨m9,m10⟩:=m8 (s,0) hsk
       obtain ⟨val2,m11⟩:=l7 hsr hp2 (p2:=pp ++ [(j,q)]) (by simp) cs 0 _ val' cn2 cn' m2 (by rw [m10]; exact k5) m3 fun m c hm=>by
        have hml:m < ti.size:=by have:=(List.getElem?_eq_some_iff.1 hm).1; omega
        rw [Nat.zero_add,c9];refine ⟨k7 m c hm,?_,?_⟩
        ·have:=m5 m .hole (by simp [hml]);rwa [Nat.zero_add] at this
        ·have:=m4 m (val (s,0) (a6 p2 m)) (by rw [Array.getElem?_toList]; exact hvs3 m hml);rw [Nat.zero_add] at this;rw [this,m9]
       refine hfin w' _ val2 hK ?_ m11;rw [k1];exact zi hi (by rw [hsz,hvs1,hvs2]) (by rw [hvs1]; exact m1)
      ·exact g7.elim
     ·exact h3.elim
    ·exact h3.elim
  ·exact h3.elim
 ·exact hq.elim
end
end
section
open Go Go.RowKit
def C.freeB:C → Bool
 | .sl true _ _ _=>false
 | _=>true
def mg (no:List Nat):List (Nat × Nat) → (List (List C) → Q) → Q
 | [],k=>k []
 | (r,g) :: rs,k=>if no.contains r = false then .whole r g fun ox=>match ox with
  | some (_,ys)=>mg no rs fun css=>k (ys :: css)
  | none=>.fail else .fail
def J8 (no:List Nat) (av:AV) (k:Bool → Arg → Q):Q:=match av with
 | .c x=>k true (.c x)
 | .agg xs=>k true (.agg xs)
 | .ref r g p ag n=>if 0 < n ∧ no.contains r = false then nx r g p n fun cs=>match ag,cs with
  | true,cs=>k (cs.all C.freeB) (.agg cs)
  | false,[c]=>k c.freeB (.c c)
  | _,_=>.fail else .fail
 | .fn g css=>k true (.fn g css)
 | .rp xs=>k true (.rp xs)
 | .clo g rs=>mg no rs fun css=>k false (.fn g css)
 | _=>.fail
def qk (no:List Nat):List Operand → (Bool → List Arg → Q) → Q
 | [],k=>k true []
 | x :: xs,k=>opd x fun av=>J8 no av fun b ar=>qk no xs fun bs as=>k (b && bs) (ar :: as)
def Jh (no:List Nat) (av:AV) (k:Nat → Bool → List C → List Upd → Q):Q:=match av with
 | .ref r g p ag n=>if 0 < n ∧ no.contains r = false ∧ p = [(0,0)] ∧ (ag = false → n = 1) then nx r g p n fun cs=>k r ag cs (holesU r p n) else .fail
 | _=>.fail
def ap (P:Program) (f:FuncId):Bool:=match P.funcs[f]? with
 | some fn => fn.body.isSome && fn.name != "runtime.NumGoroutine"
 | none=>false
def Ad (d:Nat) (r:Res):List Upd:=[.set d (resAV r) fun i=>resCon r (0,i)]
def ioU (r d:Nat):Res → List Upd
 | .own true xs :: res=>putsU r [(0,0)] 0 xs ++ [.set d (resAV res) fun i=>resCon res (0,i)]
 | _=>[]
def isBoxP:AV → Option (Nat × Nat)
 | .ptr r g [(0,0)] 0=>some (r,g)
 | _=>none
def qg (nn d:Nat) (f:FuncId) (args:List Operand):Q:=match args with
 | x :: xs=>opd x fun av=>match isBoxP av with
  | some (r,g)=>if d ≠ r then .whole r g fun ox=>match ox with
   | some (t,ys)=>.alt (qk [r] xs fun ro as=>.call f ro (.io t ys :: as) (ioU r d)) (match xs with
    | x2 :: xs2=>opd x2 fun av2=>Jh [r,d] av2 fun r2 ag cs hs=>qk [r,r2] xs2 fun ro as=>if ro = true then .call f true (.io t ys :: .own ag cs :: as) (fun res=>hs ++ ioU r d res) else .fail
    | []=>.fail)
   | none=>.fail else .fail
  | none=>.alt (J8 [] av fun b ar=>qk [] xs fun bs as=>.call f (b && bs) (ar :: as) (Ad d)) (Jh [d] av fun r2 ag cs hs=>qk [r2] xs fun ro as=>.call f ro (.own ag cs :: as) (fun res=>hs ++ Ad d res))
 | []=>.call f true [] (Ad d)
def kh (P:Program) (nn:Nat) (d:Option Nat) (f:FuncId) (args:List Operand):Q:=match d with
 | some d=>if d < nn ∧ ap P f = true then qg nn d f args else .fail
 | none=>.fail
def sr (P:Program) (nn:Nat) (d:Option Nat) (s:Nat) (args:List Operand):Q:=.slot s fun av=>match av,d with
 | .fn g css,some d=>if d < nn ∧ ap P g = true then qk [] args fun ro as=>.call g ro (as ++ css.map .rp) (Ad d) else .fail
 | .c (.p (.func (.func g) ⟨[]⟩ ⟨[]⟩)),some d=>if d < nn ∧ ap P g = true then qk [] args fun ro as=>.call g ro as (Ad d) else .fail
 | _,_=>.fail
def zx:List Operand → (List (Nat × Nat) → Q) → Q
 | [],k=>k []
 | x :: xs,k=>opd x fun av=>match isBoxP av with
  | some rg=>zx xs fun l=>k (rg :: l)
  | none=>.fail
def Ch (nn:Nat) (d:Option Nat) (g:FuncId) (caps:List Operand):Q:=zx caps fun rs=>ig nn d (.clo g rs)
def l9 (nn:Nat) (d:Option Nat) (x:Operand) (i:Nat):Q:=match x with
 | .tmp s=>.slot s fun av=>match av with
  | .tup ts=>match ts[i]? with
   | some (.c x)=>ig nn d (.c x)
   | some (.agg xs)=>ig nn d (.agg xs)
   | some (.own ag n)=>if d ≠ some s then .tcon s i fun cn=>match cn with
    | some cn=>o5 nn d [.drop s i] (.own ag n) (oneCon cn)
    | none=>.fail else .fail
   | none=>.fail
  | _=>.fail
 | _=>.fail
section
variable {P:Program} {nn:Nat} {o:Oper} {ct:Cts} {t:Option Stat} {e:Env} {K:Env → Prop} {w0:Base} {a:Act} {w:World} {val:Val} {S:Nat → Prop} {Qx:Exit → Act → World → Prop}
theorem P7 {va:aj → Value} {p:aj} {c:C} (h:NodeOk w S va p c) (hf:c.freeB = true):RO w S c (va p):=by
 cases c with
 | p v=>have:va p = v:=h; rw [this]; exact .p v
 | hole=>exact .hole _
 | sl own t k rows=>cases own with | true=>cases hf | false=>exact h
def D7 (con:bh → Option Con) (val:Val) (S:Nat → Prop) (no:List Nat) (b:Nat):Prop:=S b ∨ ∃ key p,(∀ r,no.contains r = true → key ≠ (r,0)) ∧ OwnB con val b key p
theorem Ec {r g:Nat} {t0:TypeId} {ys:List C} (hw0:e.whole r g = some (t0,ys)):e.con (r,0) = some ⟨some t0,ys⟩ ∧ e.fresh r g []:=by
 unfold Env.whole at hw0;split at hw0
 ·rename_i hok2
  refine ⟨?_,i4 hok2⟩;split at hw0
  ·rename_i tt yy hcn; cases hw0; exact hcn
  ·cases hw0
 ·cases hw0
theorem zg {no:List Nat}:∀ (rs:List (Nat × Nat)) {k:List (List C) → Q},ah ct t (mg no rs k) e K → ∃ css:List (List C),css.length = rs.length ∧ (∀ (i r g:Nat),rs[i]? = some (r,g) → no.contains r = false ∧ e.fresh r g [] ∧ ∃ t ys,e.con (r,0) = some ⟨some t,ys⟩ ∧ css[i]? = some ys) ∧ ah ct t (k css) e K
 | [],k,h=>⟨[],rfl,fun i r g hi=>by simp at hi,h⟩
 | (r,g) :: rs,k,h=>by
  unfold mg at h;split at h
  ·rename_i hno
   have h1:=h.2;dsimp only at h1;split at h1
   ·rename_i t0 ys hw0
    obtain ⟨css,h2,h3,h4⟩:=zg rs h1;refine ⟨ys :: css,by simp [h2],fun i r' g' hi=>?_,h4⟩
    cases i with
    | zero =>
     simp at hi;obtain ⟨rfl,rfl⟩:=hi;obtain ⟨h5,h6⟩:=Ec hw0;exact ⟨hno,h6,t0,ys,h5,rfl⟩
    | succ i=>simp at hi; simpa using h3 i r' g' hi
   ·exact h1.elim
  ·exact h.elim
theorem jbc {r:Nat} {t0:TypeId} {ys:List C} {T:Nat → Prop} (hs:StV w0 e a w val S) (hc:e.con (r,0) = some ⟨some t0,ys⟩) (hS:∀ b,S b → T b) (ho:∀ b p,OwnB e.con val b (r,0) p → T b):RPok w T ys (val (r,0) []):=by
 obtain ⟨b,cur,g1,g2,g3,g4⟩:=hs.mem.root (r,0) t0 ys hc;refine ⟨b,0,g1,ho b [] (.inl ⟨rfl,⟨t0,ys,hc⟩,g1⟩),(Array.getElem?_eq_some_iff.1 g2).1,fun i x hi=>?_⟩;have hil:i < ys.length:=(List.getElem?_eq_some_iff.1 hi).1;refine ⟨val (r,0) [(0,i)],?_,?_⟩
 ·unfold World.cell?; rw [Nat.zero_add]; simp only [g2]; exact g4 i hil
 ·refine B8 (fun p c hl=>hs.mem.node _ _ _ _ hc hl) hS (fun p t k rows b o n cap hl hv=>ho b p (.inr ⟨_,t,k,rows,n,cap,hc,hl,o,hv⟩)) x _ ?_;show look ys [(0,i)] = some x;simp [look,hi,C.at]
theorem J7 {no:List Nat} {av:AV} {v:Value} {k:Bool → Arg → Q} (hs:StV w0 e a w val S) (hv:av.plain = true → ∀ s,SV e w val S s av v) (h:ah ct t (J8 no av k) e K):∃ b ar,fi w ar v ∧ (b = true → dq w S ar v) ∧ dq w (D7 e.con val S no) ar v ∧ ah ct t (k b ar) e K:=by
 unfold J8 at h;split at h
 ·rename_i x
  exact ⟨true,.c x,RO.weak (hv rfl 0:RO w S x v) fun _ _ _=>trivial,fun _=>(hv rfl 0:RO w S x v),RO.weak (hv rfl 0:RO w S x v) fun _ hb _=>.inl hb,h⟩
 ·rename_i xs
  obtain ⟨vs,rfl,h1⟩:=hv rfl 0;exact ⟨true,.agg xs,⟨vs,rfl,h1.keep (fun _ _ _=>trivial) fun _ _ _=>rfl⟩,fun _=>⟨vs,rfl,h1⟩,⟨vs,rfl,h1.keep (fun _ hb _=>.inl hb) fun _ _ _=>rfl⟩,h⟩
 ·rename_i r g p ag n
  split at h
  ·rename_i hn
   obtain ⟨hn,hno⟩:=hn;obtain ⟨cs,h1,h2,h3⟩:=iy _ h;obtain ⟨hp,cn,h4,h5,h6⟩:=jq (by omega) h2;obtain ⟨-,hv⟩:=hv rfl 0;have hv:=hv fun i hi=>h5 i (by omega);have hro:∀ (i:Nat) (c:C),cs[i]? = some c → RO w (fun _=>True) c (val (r,0) (a6 p i)):=fun i c hc=>Wx (fun p c hl=>hs.mem.node _ _ _ _ h4 hl) c _ (h6 i c hc);have hfr:∀ (i:Nat) (c:C),cs[i]? = some c → c.freeB = true → RO w S c (val (r,0) (a6 p i)):=fun i c hc hf=>P7 (hs.mem.node _ _ _ _ h4 (h6 i c hc)) hf;have hel:∀ (i:Nat) (c:C),cs[i]? = some c → RO w (D7 e.con val S no) c (val (r,0) (a6 p i)):=fun i c hc=>B8 (fun p c hl=>hs.mem.node _ _ _ _ h4 hl) (fun _ hb=>.inl hb) (fun p t k rows b o n cap hl hv=>.inr ⟨(r,0),p,⟨(fun r' hr' hh=>by cases hh; rw [hno] at hr'; cases hr'),.inr ⟨cn,t,k,rows,n,cap,h4,hl,o,hv⟩⟩⟩) c _ (h6 i c hc)
   cases ag with
   | true =>
    obtain ⟨vs,rfl,h7,h8⟩:=hv
    exact ⟨_,.agg cs,⟨vs,rfl,by omega,fun i c hc=>⟨_,h8 i (by have:=(List.getElem?_eq_some_iff.1 hc).1; omega),hro i c hc⟩⟩,fun hb=>⟨vs,rfl,by omega,fun i c hc=>⟨_,h8 i (by have:=(List.getElem?_eq_some_iff.1 hc).1; omega),hfr i c hc (List.all_eq_true.1 hb c (List.mem_of_getElem? hc))⟩⟩,
     ⟨vs,rfl,by omega,fun i c hc=>⟨_,h8 i (by have:=(List.getElem?_eq_some_iff.1 hc).1; omega),hel i c hc⟩⟩,h3⟩
   | false =>
    obtain ⟨rfl,hv3⟩:=hv;obtain ⟨c,rfl⟩:=List.length_eq_one_iff.1 h1;refine ⟨_,.c c,?_,fun hb=>?_,?_,h3⟩
    ·have:=hro 0 c rfl;rw [b8,← hv3] at this;exact this
    ·have:=hfr 0 c rfl hb;rw [b8,← hv3] at this;exact this
    ·have:=hel 0 c rfl;rw [b8,← hv3] at this;exact this
  ·exact h.elim
 ·rename_i g css
  have hv:=hv rfl 0;exact ⟨true,.fn g css,FNok.keep hv (fun _ _ _=>trivial) fun _ _ _=>rfl,fun _=>hv,FNok.keep hv (fun _ hb _=>.inl hb) fun _ _ _=>rfl,h⟩
 ·rename_i xs
  have hv:=hv rfl 0;exact ⟨true,.rp xs,RPok.keep hv (fun _ _ _=>trivial) fun _ _ _=>rfl,fun _=>hv,RPok.keep hv (fun _ hb _=>.inl hb) fun _ _ _=>rfl,h⟩
 ·rename_i g rs
  obtain ⟨vs,rfl,h1,h2⟩:=hv rfl 0;obtain ⟨css,h3,h4,h5⟩:=zg _ h
  have key:FNok w (D7 e.con val S no) g css (.func (.func g) #[] vs):=by
   refine ⟨vs,rfl,by omega,fun i xs hi=>?_⟩;have hil:i < css.length:=(List.getElem?_eq_some_iff.1 hi).1;obtain ⟨⟨r,g'⟩,hr⟩:∃ x,rs[i]? = some x:=⟨rs[i]'(by omega),List.getElem?_eq_getElem _⟩;obtain ⟨h6,h7,t0,ys,h8,h9⟩:=h4 i r g' hr;rw [hi] at h9;cases h9;refine ⟨_,(h2 i r g' hr).2 h7,jbc hs h8 (fun _ hb=>.inl hb) fun b p ho=>.inr ⟨(r,0),p,fun r' hr' hh=>?_,ho⟩⟩;cases hh;rw [h6] at hr'; cases hr'
  exact ⟨false,.fn g css,FNok.keep key (fun _ _ _=>trivial) fun _ _ _=>rfl,fun hb=>(by cases hb),key,h5⟩
 ·exact h.elim
theorem jy {no:List Nat} (hs:StV w0 e a w val S):∀ (xs:List Operand) {k:Bool → List Arg → Q},ah ct t (qk no xs k) e K → ∃ (b:Bool) (as:List Arg),as.length = xs.length ∧ (∀ (i:Nat) (x:Arg),as[i]? = some x → ∃ u,(xs.map a.eval)[i]? = some u ∧ fi w x u ∧ (b = true → dq w S x u) ∧ dq w (D7 e.con val S no) x u) ∧ ah ct t (k b as) e K
 | [],k,h=>⟨true,[],rfl,fun i x hx=>by simp at hx,h⟩
 | x :: xs,k,h=>by
  obtain ⟨av,h1,h2,-⟩:=de h hs;obtain ⟨b,ar,h3,h3s,h3e,h4⟩:=J7 hs h2 h1;obtain ⟨bs,as,h5,h6,h7⟩:=jy hs xs h4;refine ⟨b && bs,ar :: as,by simp [h5],fun i y hy=>?_,h7⟩
  cases i with
  | zero=>simp at hy; subst hy; exact ⟨_,rfl,h3,fun hb=>h3s (by simp at hb; exact hb.1),h3e⟩
  | succ i=>simp at hy; obtain ⟨u,h8,h9,h10,h11⟩:=h6 i y hy; exact ⟨u,by simpa using h8,h9,fun hb=>h10 (by simp at hb; exact hb.2),h11⟩
structure Given (e:Env) (w:World) (val:Val) (S:Nat → Prop) (r n:Nat) (ag:Bool) (cs:List C) (v:Value) (cn:Con):Prop where
 len:cs.length = n
 pos:0 < n
 con:e.con (r,0) = some cn
 at_:∀ (i:Nat) (c:C),cs[i]? = some c → cn.xs[i]? = some c
 val_:TVok w S (some ⟨none,cs⟩) (val (r,0)) (.own ag cs.length) v
theorem sy (i:Nat):a6 [(0,0)] i = [(0,i)]:=by have:=c9 [] 0 0 i; simpa using this
theorem Fa {no:List Nat} {av:AV} {v:Value} {k:Nat → Bool → List C → List Upd → Q} (hs:StV w0 e a w val S) (hv:av.plain = true → ∀ s,SV e w val S s av v) (h:ah ct t (Jh no av k) e K) :
 ∃ r n ag cs cn,no.contains r = false ∧ Given e w val S r n ag cs v cn ∧ ah ct t (k r ag cs (holesU r [(0,0)] n)) e K:=by
 unfold Jh at h;split at h
 ·rename_i r g p ag n
  split at h
  ·rename_i hn
   obtain ⟨hn,hno,rfl,hag⟩:=hn;obtain ⟨cs,h1,h2,h3⟩:=iy _ h;obtain ⟨hp,cn,h4,h5,h6⟩:=jq (by omega) h2;obtain ⟨-,hv1⟩:=hv rfl 0;have hv2:=hv1 fun i hi=>h5 i (by omega);refine ⟨r,n,ag,cs,cn,hno,⟨h1,hn,h4,fun i c hc=>?_,?_⟩,h3⟩
   ·have:=h6 i c hc;rwa [sy,dv] at this
   ·cases ag with
    | false =>
     obtain ⟨hn1,hv3⟩:=hv2;have hn1:n = 1:=hn1;subst hn1;obtain ⟨c,rfl⟩:=List.length_eq_one_iff.1 h1;exact ⟨⟨c,rfl⟩,rfl,hv3⟩
    | true =>
     obtain ⟨vs,rfl,h7,h8⟩:=hv2;exact ⟨cs,vs,rfl,rfl,rfl,by omega,fun i hi=>by rw [h8 i (by omega),sy]⟩
  ·exact h.elim
 ·exact h.elim
theorem StV.hole1 (h:StV w0 e a w val S) {r:Nat} {cn:Con} {p:aj} {c0:C} (hc:e.con (r,0) = some cn) (hl:look cn.xs p = some c0):StV w0 (e.put r p .hole) a w val S ∧ ∀ b k q,OwnB (e.put r p .hole).con val b k q → OwnB e.con val b k q ∧ ¬ (k = (r,0) ∧ p <+: q):=by
 obtain ⟨hm,ho⟩:=h.mem.hole hc hl;rw [← Np] at hm ho;exact ⟨⟨h.sz,h.defers,hm,fun x=>(h.slot x).put (fun cn hcn=>ml e r p .hole hcn) (fun i=>by simp [Env.put]) (fun _ _=>rfl) rfl rfl fun r1 g q hf=>⟨(sh _ _ _ _ hf).1,rfl⟩,h.frm,fun b k q hb=>h.low _ _ _ (ho b k q hb).1,h.rts,h.sS⟩,ho⟩
theorem StV.holes (h:StV w0 e a w val S) {r:Nat} {cn:Con} (hc:e.con (r,0) = some cn):∀ n,n ≤ cn.xs.length → StV w0 (e.holes r [(0,0)] n) a w val S ∧ (∀ b k q,OwnB (e.holes r [(0,0)] n).con val b k q → OwnB e.con val b k q ∧ ∀ i,i < n → ¬ (k = (r,0) ∧ [(0,i)] <+: q))
 | 0,_=>⟨h,fun _ _ _ ho=>⟨ho,fun _ hi=>absurd hi (Nat.not_lt_zero _)⟩⟩
 | n + 1,hl=>by
  obtain ⟨h1,h2⟩:=StV.holes h hc n (by omega);obtain ⟨cn',h3,-,-,h4⟩:=j5 (p:=[(0,0)]) (by simp) hc n;rw [← oh] at h3;have hx:look cn'.xs (a6 [(0,0)] n) = some cn.xs[n]:=by rw [h4 n (Nat.le_refl _),sy,dv]; exact List.getElem?_eq_getElem (by omega)
  obtain ⟨h5,h6⟩:=h1.hole1 h3 hx;refine ⟨h5,fun b k q ho=>?_⟩;obtain ⟨h7,h8⟩:=h6 b k q ho;obtain ⟨h9,h10⟩:=h2 b k q h7;refine ⟨h9,fun i hi=>?_⟩;rw [sy] at h8
  by_cases hin:i = n
  ·subst hin; exact h8
  ·exact h10 i (by omega)
theorem Given.look_ {r n:Nat} {ag:Bool} {cs:List C} {v:Value} {cn:Con} (g:Given e w val S r n ag cs v cn) {p:aj} {c:C} (h:look cs p = some c):look cn.xs p = some c ∧ ∃ i z,i < n ∧ p = (0,i) :: z:=by
 match p with
 | []=>cases h
 | (j + 1,i) :: z=>cases h
 | (0,i) :: z =>
  have h:(cs[i]?.bind fun x=>x.at z) = some c:=h
  cases hx:cs[i]? with
  | none=>rw [hx] at h; cases h
  | some x =>
   rw [hx] at h;refine ⟨?_,i,z,by rw [← g.len]; exact (List.getElem?_eq_some_iff.1 hx).1,rfl⟩;show (cn.xs[i]?.bind fun x=>x.at z) = some c;rw [g.at_ i x hx];exact h
theorem Given.le {r n:Nat} {ag:Bool} {cs:List C} {v:Value} {cn:Con} (g:Given e w val S r n ag cs v cn):n ≤ cn.xs.length:=by
 rcases Nat.lt_or_ge cn.xs.length n with h | h
 ·have hlt:cn.xs.length < cs.length:=by rw [g.len]; exact h
  have h1:=g.at_ cn.xs.length cs[cn.xs.length] (List.getElem?_eq_getElem hlt);have:=(List.getElem?_eq_some_iff.1 h1).1;omega
 ·exact h
theorem StV.ret (h:StV w0 e a w val S) {d:Nat} {r:Res} {v:Value} {w':World} {val2:Val} {S2:Nat → Prop} (hd:d < e.n) (hr:Mq w w' S r v val2 S2) :
 StV w0 (e.set d (resAV r) fun i=>resCon r (0,i)) (a.put (some d) v) w' (dt d (fun i=>val2 (0,i)) val) (fun b=>S b ∨ S2 b):=by
 have hc:∀ key:bh,key.1 = d → ij d (fun i=>resCon r (0,i)) key = resCon r (0,key.2):=fun key hk=>by simp only [ij,if_pos hk]
 have hcn:∀ key:bh,key.1 ≠ d → ij d (fun i=>resCon r (0,i)) key = none:=fun key hk=>by simp only [ij,if_neg hk]
 have hv:∀ key:bh,key.1 = d → dt d (fun i=>val2 (0,i)) val key = val2 (0,key.2):=fun key hk=>by simp only [dt,if_pos hk]
 have hkd:∀ key cn,ij d (fun i=>resCon r (0,i)) key = some cn → key.1 = d:=fun key cn hk=>by
  by_cases h1:key.1 = d
  ·exact h1
  ·rw [hcn key h1] at hk; cases hk
 have hown:∀ b key p,OwnB (ij d fun i=>resCon r (0,i)) (dt d (fun i=>val2 (0,i)) val) b key p → key.1 = d ∧ OwnB (resCon r) val2 b (0,key.2) p:=fun b key p ho=>by
  obtain ⟨cn,hcn'⟩:=ho.some;have hk:=hkd key cn hcn';refine ⟨hk,?_⟩
  rcases ho with ⟨h1,h2,h3⟩ | ⟨cn,t,k,rows,n,cap,h1,h2,h3⟩
  ·rw [hc key hk] at h2; rw [hv key hk] at h3; exact .inl ⟨h1,h2,h3⟩
  ·rw [hc key hk] at h1; rw [hv key hk] at h3; exact .inr ⟨cn,t,k,rows,n,cap,h1,h2,h3⟩
 refine h.setG hd hr.below ⟨fun key cn p c h1 h2=>?_,fun key t xs h1=>?_,fun b key p key' p' h1 h2=>?_,fun b hb=>?_⟩ (fun b key p ho=>hr.new _ _ _ (hown b key p ho).2) hr.newS ?_
 ·have hk:=hkd key cn h1;rw [hc key hk] at h1;rw [hv key hk];exact (hr.mem.node _ cn p c h1 h2).keep (fun b hb _=>.inr hb) (fun _ _ _=>rfl) (fun _ _ _ _ _ _ _ _ _ _=>rfl)
 ·have hk:=hkd key _ h1;rw [hc key hk] at h1;rw [hv key hk];exact hr.mem.root _ t xs h1
 ·obtain ⟨k1,g1⟩:=hown _ _ _ h1;obtain ⟨k2,g2⟩:=hown _ _ _ h2;obtain ⟨g3,g4⟩:=hr.mem.inj _ _ _ _ _ g1 g2;refine ⟨?_,g4⟩;obtain ⟨x1,x2⟩:=key;obtain ⟨y1,y2⟩:=key';simp only at k1 k2 g3;simp at g3;rw [k1,k2,g3]
 ·rcases hb with hb | hb
  ·have hlt:=(h.mem.sep b hb).1;refine ⟨Nat.lt_of_lt_of_le hlt hr.below.size,fun key p ho=>?_⟩;have:=hr.new _ _ _ (hown _ _ _ ho).2;omega
  ·exact ⟨(hr.mem.sep b hb).1,fun key p ho=>(hr.mem.sep b hb).2 _ _ (hown _ _ _ ho).2⟩
 ·have hsv:=hr.sv;have hcon:∀ i,(e.set d (resAV r) fun i=>resCon r (0,i)).con (d,i) = resCon r (0,i):=fun i=>by simp [Env.set]
  have hval:∀ i,dt d (fun i=>val2 (0,i)) val (d,i) = val2 (0,i):=fun i=>by simp [dt]
  have htv:∀ (i:Nat) (tv:TV) (u:Value),TVok w' S2 (resCon r (0,i)) (val2 (0,i)) tv u → TVok w' (fun b=>S b ∨ S2 b) ((e.set d (resAV r) fun i=>resCon r (0,i)).con (d,i)) (dt d (fun i=>val2 (0,i)) val (d,i)) tv u:=fun i tv u hh=>by
   rw [hcon,hval];exact hh.keep (fun b hb _=>.inr hb) fun _ _ _=>rfl
  have hcon2:∀ (av:AV) i,(e.set d av fun i=>resCon r (0,i)).con (d,i) = resCon r (0,i):=fun av i=>by simp [Env.set]
  generalize hrr:resAV r = av at hsv ⊢
  have hav:(∃ tv:TV,av = tv.av) ∨ ∃ ts,av = .tup ts:=by
   rw [← hrr];unfold resAV;split
   ·exact .inl ⟨_,rfl⟩
   ·exact .inr ⟨_,rfl⟩
  rw [hrr] at htv
  rcases hav with ⟨tv,rfl⟩ | ⟨ts,rfl⟩
  ·cases tv with
   | c x=>exact htv 0 (.c x) v hsv
   | agg xs=>exact htv 0 (.agg xs) v hsv
   | own ag n=>exact htv 0 (.own ag n) v hsv
  ·obtain ⟨vs,h1,h2,h3⟩:=hsv;refine ⟨vs,h1,h2,fun i tv hi=>?_⟩;obtain ⟨u,h4,h5⟩:=h3 i tv hi;exact ⟨u,h4,h5.imp (fun hh=>⟨by rw [hcon2]; exact hh.1,hh.2⟩) fun hh=>htv (i + 1) tv u hh⟩
theorem B2 (r:Nat):∀ (ys:List C) (i:Nat) (e:Env) (cn:Con),e.con (r,0) = some cn → i + ys.length = cn.xs.length →
 (e.puts r [(0,0)] i ys).con (r,0) = some { cn with xs:=cn.xs.take i ++ ys } ∧ (∀ key,key ≠ (r,0) → (e.puts r [(0,0)] i ys).con key = e.con key) ∧ (e.puts r [(0,0)] i ys).n = e.n ∧ (e.puts r [(0,0)] i ys).s = e.s ∧ (e.puts r [(0,0)] i ys).gen = e.gen ∧ (∀ x,x ≠ r → (e.puts r [(0,0)] i ys).dirty x = e.dirty x) ∧
   (∀ p,p ∈ e.dirty r → p ∈ (e.puts r [(0,0)] i ys).dirty r) ∧ ∀ j,i ≤ j → j < i + ys.length → [(0,j)] ∈ (e.puts r [(0,0)] i ys).dirty r
 | [],i,e,cn,hc,hl=>⟨by show e.con (r,0) = _; rw [hc,List.append_nil,List.take_of_length_le (by simp at hl; omega)],fun _ _=>rfl,rfl,rfl,rfl,fun _ _=>rfl,fun _ h=>h,fun j h1 h2=>by simp at h2; omega⟩
 | y :: ys,i,e,cn,hc,hl=>by
  simp only [List.length_cons] at hl
  have hc':(e.put r (a6 [(0,0)] i) y).con (r,0) = some { cn with xs:=cn.xs.set i y }:=by
   have hcp:a6 [(0,0)] i = [(0,i)]:=by have:=c9 [] 0 0 i; simpa using this
   rw [hcp];simp only [Env.put,if_pos,hc,Option.map_some,puts]
   congr 2
   apply List.ext_getElem?;intro m;rw [fy,List.getElem?_set]
   by_cases hm:i = m
   ·subst hm;rw [if_pos rfl,if_pos rfl,if_pos (by omega),List.getElem?_eq_getElem (by omega)];simp [No]
   ·rw [if_neg hm,if_neg hm]
  obtain ⟨h1,h2,h3,h4,h5,h6,h7,h8⟩:=B2 r ys (i + 1) (e.put r (a6 [(0,0)] i) y) _ hc' (by simp; omega);refine ⟨?_,fun key hk=>(h2 key hk).trans (by simp [Env.put,hk]),h3,h4,h5,fun x hx=>(h6 x hx).trans (by simp [Env.put,hx]),fun p hp=>h7 p (by simp [Env.put,hp]),fun j hj1 hj2=>?_⟩
  ·show (Env.puts (e.put r (a6 [(0,0)] i) y) r [(0,0)] (i + 1) ys).con (r,0) = _;rw [h1]
   congr 2
   simp only;apply List.ext_getElem?;intro m
   by_cases hm:m < i + 1
   ·rw [List.getElem?_append_left (by simp; omega),List.getElem?_take_of_lt hm,List.getElem?_set]
    by_cases hm2:i = m
    ·subst hm2;rw [if_pos rfl,if_pos (by omega),List.getElem?_append_right (by simp; omega)];have:i - (List.take i cn.xs).length = 0:=by simp; omega
     rw [this]; rfl
    ·rw [if_neg hm2,List.getElem?_append_left (by simp; omega),List.getElem?_take_of_lt (by omega)]
   ·rw [List.getElem?_append_right (by simp; omega),List.getElem?_append_right (by simp; omega)];have e1:(List.take (i + 1) (cn.xs.set i y)).length = i + 1:=by simp; omega
    have e2:(List.take i cn.xs).length = i:=by simp; omega
    rw [e1,e2,show m - i = (m - (i + 1)) + 1 by omega,List.getElem?_cons_succ]
  ·rcases Nat.lt_or_ge i j with hij | hij
   ·exact h8 j (by omega) (by simp at hj2; omega)
   ·have:j = i:=by omega
    subst this;refine h7 _ ?_;have hcp:a6 [(0,0)] j = [(0,j)]:=by have:=c9 [] 0 0 j; simpa using this
    simp [Env.put,hcp]
def inR (n:Nat):aj → Bool
 | (0,i) :: _=>decide (i < n)
 | _=>false
theorem Jb {xs:List C} {p:aj} {c:C} (h:look xs p = some c) (z:aj):inR xs.length (p ++ z) = true:=by
 cases p with
 | nil=>cases h
 | cons s p =>
  obtain ⟨j,i⟩:=s
  cases j with
  | succ j=>cases h
  | zero =>
   simp only [look] at h
   cases hx:xs[i]? with
   | none=>rw [hx] at h; cases h
   | some y=>show decide (i < xs.length) = true; exact decide_eq_true (List.getElem?_eq_some_iff.1 hx).1
theorem StV.retIO (h:StV w0 e a w val S) {d r:Nat} {t:TypeId} {xs xs':List C} {res:Res} {v:Value} {w':World} {val2:Val} {S2 G:Nat → Prop} (hd:d < e.n) (hdr:d ≠ r) (hc:e.con (r,0) = some ⟨some t,xs⟩) (hl:xs'.length = xs.length)
 (hGm:∀ b,G b → w0.mine b) (hGo:∀ b key p,OwnB e.con val b key p → key ≠ (r,0) → ¬ G b) (hGS:∀ b,S b → ¬ G b)
 (hr:Dl w w' G S t xs' (val (r,0) []) res v val2 S2) :
 StV w0 ((e.puts r [(0,0)] 0 xs').set d (resAV res) fun i=>resCon res (0,i)) (a.put (some d) v) w' (fun key=>if key.1 = d then val2 (0,key.2) else if key = (r,0) then (fun p=>if inR xs'.length p = true then val2 (1,0) p else val (r,0) p) else val key) (fun b=>S b ∨ S2 b):=by
 obtain ⟨c1,c2,c3,c4,c5,c6,c7,c8⟩:=B2 r xs' 0 e _ hc (by simpa using hl);simp only [List.take_zero,List.nil_append] at c1;obtain ⟨E1,hE1⟩:∃ E1,E1 = (e.puts r [(0,0)] 0 xs').set d (resAV res) fun i=>resCon res (0,i):=⟨_,rfl⟩
 obtain ⟨nv,hnv⟩:∃ nv:Val,nv = fun key=>if key.1 = d then val2 (0,key.2) else if key = (r,0) then (fun p=>if inR xs'.length p = true then val2 (1,0) p else val (r,0) p) else val key:=⟨_,rfl⟩
 rw [← hE1,← hnv];have kd:∀ i,E1.con (d,i) = resCon res (0,i):=fun i=>by rw [hE1]; simp [Env.set]
 have kr:E1.con (r,0) = some ⟨some t,xs'⟩:=by rw [hE1]; simp only [Env.set,if_neg (Ne.symm hdr)]; exact c1
 have ko:∀ key:bh,key.1 ≠ d → key ≠ (r,0) → E1.con key = e.con key:=fun key k1 k2=>by rw [hE1]; simp only [Env.set,if_neg k1]; exact c2 key k2
 have vd:∀ i,nv (d,i) = val2 (0,i):=fun i=>by rw [hnv]; simp
 have vr:∀ p,inR xs'.length p = true → nv (r,0) p = val2 (1,0) p:=fun p hp=>by rw [hnv]; simp only [if_neg (Ne.symm hdr),if_pos,hp]
 have vr2:∀ p,inR xs'.length p = false → nv (r,0) p = val (r,0) p:=fun p hp=>by rw [hnv]; simp only [if_neg (Ne.symm hdr),if_pos,hp]; rfl
 have vr0:nv (r,0) [] = val (r,0) []:=vr2 [] rfl;have vo:∀ key:bh,key.1 ≠ d → key ≠ (r,0) → nv key = val key:=fun key k1 k2=>by rw [hnv]; simp only [if_neg k1,if_neg k2]
 have io0:∀ i,dw t xs' res (0,i) = resCon res (0,i):=fun i=>by unfold dw; rw [if_neg (by simp)]
 have io1:dw t xs' res (1,0) = some ⟨some t,xs'⟩:=by unfold dw; rw [if_pos rfl]
 have own:∀ b key p,OwnB E1.con nv b key p → (key.1 = d ∧ OwnB (dw t xs' res) val2 b (0,key.2) p) ∨ (key = (r,0) ∧ OwnB (dw t xs' res) val2 b (1,0) p) ∨ (key.1 ≠ d ∧ key ≠ (r,0) ∧ OwnB e.con val b key p):=fun b key p ho=>by
  obtain ⟨k1,k2⟩:=key
  by_cases hk:k1 = d
  ·subst hk;refine .inl ⟨rfl,?_⟩
   rcases ho with ⟨g1,g2,g3⟩ | ⟨cn,t',k,rows,n,cap,g1,g2,g3⟩
   ·exact .inl ⟨g1,by rw [io0,← kd]; exact g2,by rw [← vd]; exact g3⟩
   ·exact .inr ⟨cn,t',k,rows,n,cap,by rw [io0,← kd]; exact g1,g2,by rw [← vd]; exact g3⟩
  ·by_cases hk2:(k1,k2) = (r,0)
   ·refine .inr (.inl ⟨hk2,?_⟩);rw [hk2] at ho
    rcases ho with ⟨g1,⟨t',ys,g2⟩,g3⟩ | ⟨cn,t',k,rows,n,cap,g1,g2,g3⟩
    ·subst g1;rw [vr0] at g3;exact .inl ⟨rfl,⟨t,xs',io1⟩,by rw [hr.root]; exact g3⟩
    ·rw [kr] at g1;cases g1;have hi:inR xs'.length p = true:=by have:=Jb g2 []; rwa [List.append_nil] at this
     rw [vr p hi] at g3;exact .inr ⟨_,t',k,rows,n,cap,io1,g2,g3⟩
   ·exact .inr (.inr ⟨hk,hk2,ho.con (ko _ hk hk2).symm (vo _ hk hk2).symm⟩)
 have notG:=hGo;have hblk:∀ b,b < w.heap.size → (¬ G b) → w'.heap[b]? = w.heap[b]?:=fun b hb hg=>hr.frm.block b hb hg;have hSk:∀ b,S b → b < w.heap.size → w'.heap[b]? = w.heap[b]?:=fun b hb hl=>hblk b hl (hGS b hb);refine ⟨?_,h.defers,⟨fun key cn p c h1 h2=>?_,fun key t' xs2 h1=>?_,fun b key p key' p' h1 h2=>?_,fun b hb=>?_⟩,fun x=>?_,?_,fun b key p ho=>?_,fun x hx=>?_,fun b hb=>?_⟩
 ·rw [hE1]; simp [Act.put,Env.set,c3,h.sz]
 ·obtain ⟨k1,k2⟩:=key
  by_cases hk:k1 = d
  ·subst hk;rw [kd] at h1;rw [vd];exact (hr.mem.node (0,k2) cn p c (by rw [io0]; exact h1) h2).keep (fun _ hb _=>.inr hb) (fun _ _ _=>rfl) fun _ _ _ _ _ _ _ _ _ _=>rfl
  ·by_cases hk2:(k1,k2) = (r,0)
   ·rw [hk2] at h1 ⊢;rw [kr] at h1;cases h1;have:=(hr.mem.node (1,0) _ p c io1 h2).keep (S':=fun b=>S b ∨ S2 b) (w':=w') (fun _ hb _=>.inr hb) (fun _ _ _=>rfl) fun _ _ _ _ _ _ _ _ _ _=>rfl;exact this.reval (va:=val2 (1,0)) fun z=>vr _ (Jb h2 z)
   ·rw [ko _ hk hk2] at h1;rw [vo _ hk hk2];refine (h.mem.node _ cn p c h1 h2).keep (fun _ hb _=>.inl hb) hSk fun t' k rows b o n cap hcc hv hlt=>?_;subst hcc;exact hblk b hlt (notG b _ p (.inr ⟨cn,t',k,rows,n,cap,h1,h2,o,hv⟩) hk2)
 ·obtain ⟨k1,k2⟩:=key
  by_cases hk:k1 = d
  ·subst hk;rw [kd] at h1;rw [vd];exact hr.mem.root (0,k2) t' xs2 (by rw [io0]; exact h1)
  ·by_cases hk2:(k1,k2) = (r,0)
   ·rw [hk2] at h1 ⊢;rw [kr] at h1;cases h1;obtain ⟨b,cur,g1,g2,g3,g4⟩:=hr.mem.root (1,0) _ _ io1;exact ⟨b,cur,by rw [vr0,← hr.root]; exact g1,g2,g3,fun i hi=>by rw [vr [(0,i)] (show decide (i < xs'.length) = true from decide_eq_true hi)]; exact g4 i hi⟩
   ·rw [ko _ hk hk2] at h1;rw [vo _ hk hk2];exact (h.mem.root _ t' xs2 h1).keep fun b hv hlt=>hblk b hlt (notG b _ [] (.inl ⟨rfl,⟨t',xs2,h1⟩,hv⟩) hk2)
 ·have old:∀ b key p,OwnB e.con val b key p → key ≠ (r,0) → ¬ (w.heap.size ≤ b ∨ G b):=fun b key p ho hk hh=>hh.elim (fun hh=>by have:=h.mem.lt ho; omega) (notG b key p ho hk)
  rcases own b key p h1 with ⟨k1,g1⟩ | ⟨k1,g1⟩ | ⟨k1,k2,g1⟩ <;> rcases own b key' p' h2 with ⟨k3,g3⟩ | ⟨k3,g3⟩ | ⟨k3,k4,g3⟩
  ·obtain ⟨g5,g6⟩:=hr.mem.inj _ _ _ _ _ g1 g3;refine ⟨?_,g6⟩;obtain ⟨x1,x2⟩:=key;obtain ⟨y1,y2⟩:=key';simp only at k1 k3 g5;simp at g5;rw [k1,k3,g5]
  ·have:=(hr.mem.inj _ _ _ _ _ g1 g3).1;simp at this
  ·exact absurd (hr.new _ _ _ g1) (old b _ _ g3 k4)
  ·have:=(hr.mem.inj _ _ _ _ _ g1 g3).1;simp at this
  ·exact ⟨k1.trans k3.symm,(hr.mem.inj _ _ _ _ _ g1 g3).2⟩
  ·exact absurd (hr.new _ _ _ g1) (old b _ _ g3 k4)
  ·exact absurd (hr.new _ _ _ g3) (old b _ _ g1 k2)
  ·exact absurd (hr.new _ _ _ g3) (old b _ _ g1 k2)
  ·exact h.mem.inj _ _ _ _ _ g1 g3
 ·rcases hb with hb | hb
  ·obtain ⟨g1,g2⟩:=h.mem.sep b hb;have hno:¬ (w.heap.size ≤ b ∨ G b):=fun hh=>hh.elim (fun hh=>by omega) (hGS b hb);refine ⟨Nat.lt_of_lt_of_le g1 hr.frm.size,fun key p ho=>?_⟩
   rcases own b key p ho with ⟨-,g3⟩ | ⟨-,g3⟩ | ⟨-,-,g3⟩
   ·exact hno (hr.new _ _ _ g3)
   ·exact hno (hr.new _ _ _ g3)
   ·exact g2 _ _ g3
  ·obtain ⟨g1,g2⟩:=hr.mem.sep b hb;refine ⟨g1,fun key p ho=>?_⟩
   rcases own b key p ho with ⟨-,g3⟩ | ⟨-,g3⟩ | ⟨-,k2,g3⟩
   ·exact g2 _ _ g3
   ·exact g2 _ _ g3
   ·rcases hr.newS b hb with (hh | hh) | hh
    ·have:=h.mem.lt g3; omega
    ·exact notG b _ _ g3 k2 hh
    ·exact (h.mem.sep b hh).2 _ _ g3
 ·rw [o8 (by rw [h.sz]; exact hd)]
  by_cases hx:x = d
  ·subst hx;rw [if_pos rfl];have e1:E1.s x = resAV res:=by rw [hE1]; simp [Env.set]
   rw [e1]
   have htv:∀ (i:Nat) (tv:TV) (u:Value),TVok w' S2 (resCon res (0,i)) (val2 (0,i)) tv u → TVok w' (fun b=>S b ∨ S2 b) (E1.con (x,i)) (nv (x,i)) tv u:=fun i tv u hh=>by
    rw [kd,vd]; exact hh.keep (fun _ hb _=>.inr hb) fun _ _ _=>rfl
   have hsv:=hr.sv
   generalize hrr:resAV res = av at hsv ⊢
   have hav:(∃ tv:TV,av = tv.av) ∨ ∃ ts,av = .tup ts:=by
    rw [← hrr];unfold resAV;split
    ·exact .inl ⟨_,rfl⟩
    ·exact .inr ⟨_,rfl⟩
   rcases hav with ⟨tv,rfl⟩ | ⟨ts,rfl⟩
   ·cases tv with
    | c y=>exact htv 0 (.c y) v hsv
    | agg ys=>exact htv 0 (.agg ys) v hsv
    | own ag n=>exact htv 0 (.own ag n) v hsv
   ·obtain ⟨vs,g1,g2,g3⟩:=hsv;refine ⟨vs,g1,g2,fun i tv hi=>?_⟩;obtain ⟨u,g4,g5⟩:=g3 i tv hi;exact ⟨u,g4,g5.imp (fun hh=>⟨by rw [kd]; exact hh.1,hh.2⟩) fun hh=>htv (i + 1) tv u hh⟩
  ·rw [if_neg hx];have e1:E1.s x = e.s x:=by rw [hE1]; simp [Env.set,hx,c4]
   rw [e1];have hsv:=h.slot x
   have hgen:∀ r1,e.gen r1 ≤ E1.gen r1:=fun r1=>by
    have:=im (e:=e.puts r [(0,0)] 0 xs') d (resAV res) (fun i=>resCon res (0,i)) r1;rw [c5] at this;rw [hE1]; exact this
   have hfr:∀ r1 g p,g ≤ e.gen r1 → E1.fresh r1 g p → e.fresh r1 g p ∧ nv (r1,0) p = val (r1,0) p:=fun r1 g p hg hf=>by
    rw [hE1] at hf;obtain ⟨k1,k2,k3⟩:=e8 (e:=e.puts r [(0,0)] 0 xs') (by rw [c5]; exact hg) hf
    by_cases hr1:r1 = r
    ·subst hr1;refine ⟨⟨by rw [c5] at k2; exact k2,fun q hq=>k3 q (c7 q hq)⟩,vr2 p ?_⟩
     match p,k3 with
     | [],_=>rfl
     | (0,i) :: z,k3 =>
      show decide (i < xs'.length) = false;refine decide_eq_false fun hi=>k3 [(0,i)] (c8 i (Nat.zero_le _) (by omega)) ⟨z,rfl⟩
     | (j + 1,i) :: z,_=>rfl
    ·exact ⟨⟨by rw [c5] at k2; exact k2,fun q hq=>k3 q (by rw [c6 r1 hr1]; exact hq)⟩,by rw [vo (r1,0) k1 (fun hh=>hr1 (by cases hh; rfl))]⟩
   by_cases hxr:x = r
   ·subst hxr
    cases hav:e.s x with
    | own ag n =>
     exfalso;rw [hav] at hsv;have hsv:TVok w S (e.con (x,0)) (val (x,0)) (.own ag n) (a.tmps.getD x undef):=hsv;rw [hc] at hsv
     cases ag with
     | false=>obtain ⟨⟨y,g1⟩,-⟩:=hsv; cases g1
     | true=>obtain ⟨ys,vs,g1,-⟩:=hsv; cases g1
    | box =>
     rw [hav] at hsv;exact ⟨⟨t,xs',kr⟩,by rw [vr0]; exact hsv.2⟩
    | tup ts =>
     rw [hav] at hsv;obtain ⟨vs,g1,g2,g3⟩:=hsv;refine ⟨vs,g1,g2,fun m tv hm=>?_⟩;obtain ⟨u,g4,g5⟩:=g3 m tv hm;refine ⟨u,g4,?_⟩;have hne:(x,m + 1) ≠ (x,0):=by simp
     rw [ko _ hx hne,vo _ hx hne];exact g5.keep (fun _ hb _=>.inl hb) hSk
    | dead=>trivial
    | c y=>rw [hav] at hsv; exact RO.keep hsv (fun _ hb _=>.inl hb) hSk
    | agg ys=>rw [hav] at hsv; obtain ⟨vs,g1,g2⟩:=hsv; exact ⟨vs,g1,g2.keep (fun _ hb _=>.inl hb) hSk⟩
    | ref r1 g p ag n =>
     rw [hav] at hsv;obtain ⟨g1,g2⟩:=hsv;refine ⟨Nat.le_trans g1 (hgen r1),fun hf=>?_⟩;have g3:=g2 fun i hi=>(hfr r1 g _ g1 (hf i hi)).1
     cases ag with
     | false =>
      obtain ⟨rfl,g3⟩:=g3;exact ⟨rfl,by rw [g3]; exact ((hfr r1 g p g1 (hf 0 (by omega))).2).symm⟩
     | true =>
      obtain ⟨vs,g4,g5,g6⟩:=g3;exact ⟨vs,g4,g5,fun i hi=>by rw [(hfr r1 g _ g1 (hf i hi)).2]; exact g6 i hi⟩
    | ptr r1 g p k =>
     rw [hav] at hsv;obtain ⟨g1,g2⟩:=hsv;refine ⟨Nat.le_trans g1 (hgen r1),fun hf=>?_⟩;obtain ⟨g3,g4⟩:=hfr r1 g p.dropLast g1 hf;obtain ⟨p',j,q,b,o,rfl,g5,g6⟩:=g2 g3;refine ⟨p',j,q,b,o,rfl,g5,?_⟩;rw [List.dropLast_concat] at g4
     rcases g6 with ⟨rfl,g6,g8,g7⟩ | ⟨hne,n,cap,g6⟩
     ·exact .inl ⟨rfl,g6,g8,by rw [g4]; exact g7⟩
     ·exact .inr ⟨hne,n,cap,by rw [g4]; exact g6⟩
    | rp ys =>
     rw [hav] at hsv;obtain ⟨b,off,g1,g2,g3,g4⟩:=hsv;have hb:=hSk b g2 g3;refine ⟨b,off,g1,.inl g2,Nat.lt_of_lt_of_le g3 hr.frm.size,fun i y hi=>?_⟩;obtain ⟨u,g5,g6⟩:=g4 i y hi;exact ⟨u,(World.cell?_of_block hb).trans g5,g6.keep (fun _ hb _=>.inl hb) hSk⟩
    | fn g css=>rw [hav] at hsv; exact FNok.keep hsv (fun _ hb _=>.inl hb) hSk
    | clo g rs=>rw [hav] at hsv; exact CLok.keep hsv hgen fun r1 g' h1 hf=>hfr r1 g' [] h1 hf
   ·have hne:∀ i,(x,i) ≠ (r,0):=fun i hh=>hxr (by cases hh; rfl);exact hsv.keep (fun _ hb _=>.inl hb) hSk (fun i=>ko _ hx (hne i)) (fun i j=>by rw [vo _ hx (hne i)]) (by rw [vo _ hx (hne 0)]) hgen hfr
 ·refine ⟨hr.frm.os.trans h.frm.os,hr.frm.tape.trans h.frm.tape,hr.frm.output.trans h.frm.output,Nat.le_trans h.frm.size hr.frm.size,fun k hk hg=>(hblk k (Nat.lt_of_lt_of_le hk h.frm.size) fun hgk=>?_).trans (h.frm.block k hk hg)⟩;exact (hGm _ hgk).elim (fun hh=>by omega) hg
 ·have key2:∀ b,(w.heap.size ≤ b ∨ G b) → w0.mine b:=fun b hh=>hh.elim (fun hh=>.inl (Nat.le_trans h.frm.size hh)) (hGm b)
  rcases own b key p ho with ⟨-,g1⟩ | ⟨-,g1⟩ | ⟨-,-,g1⟩
  ·exact key2 b (hr.new _ _ _ g1)
  ·exact key2 b (hr.new _ _ _ g1)
  ·exact h.low _ _ _ g1
 ·have hx:e.n ≤ x:=by rw [hE1] at hx; simpa [Env.set,c3] using hx
  have hxd:x ≠ d:=by omega
  by_cases hxr:x = r
  ·subst hxr; rw [vr0]; exact h.rts _ hx
  ·rw [vo (x,0) hxd (fun hh=>hxr (by cases hh; rfl))]; exact h.rts _ hx
 ·rcases hb with hb | hb
  ·exact h.sS b hb
  ·rcases hr.newS b hb with (hh | hh) | hh
   ·exact .inl (.inl (Nat.le_trans h.frm.size hh))
   ·exact .inl (hGm _ hh)
   ·exact h.sS b hh
theorem StV.retN (h:StV w0 e a w val S) {d:Nat} {res:Res} {v:Value} {w':World} {val2:Val} {S2 G:Nat → Prop} (hd:d < e.n)
 (hGm:∀ b,G b → w0.mine b) (hGo:∀ b key p,OwnB e.con val b key p → ¬ G b) (hGS:∀ b,S b → ¬ G b) (hr:jc3 w w' G S res v val2 S2) :
 StV w0 (e.set d (resAV res) fun i=>resCon res (0,i)) (a.put (some d) v) w' (dt d (fun i=>val2 (0,i)) val) (fun b=>S b ∨ S2 b):=by
 have hblk:∀ b,b < w.heap.size → (¬ G b) → w'.heap[b]? = w.heap[b]?:=fun b hb hg=>hr.frm.block b hb hg;have hSk:∀ b,S b → b < w.heap.size → w'.heap[b]? = w.heap[b]?:=fun b hb hl=>hblk b hl (hGS b hb);have kd:∀ i,(e.set d (resAV res) fun i=>resCon res (0,i)).con (d,i) = resCon res (0,i):=fun i=>by simp [Env.set]
 have ko:∀ key:bh,key.1 ≠ d → (e.set d (resAV res) fun i=>resCon res (0,i)).con key = e.con key:=fun key hk=>by simp [Env.set,hk]
 have vd:∀ i,dt d (fun i=>val2 (0,i)) val (d,i) = val2 (0,i):=fun i=>by simp [dt]
 have vo:∀ key:bh,key.1 ≠ d → dt d (fun i=>val2 (0,i)) val key = val key:=fun key hk=>by simp [dt,hk]
 have own:∀ b key p,OwnB (e.set d (resAV res) fun i=>resCon res (0,i)).con (dt d (fun i=>val2 (0,i)) val) b key p → (key.1 = d ∧ OwnB (resCon res) val2 b (0,key.2) p) ∨ (key.1 ≠ d ∧ OwnB e.con val b key p):=fun b key p ho=>by
  obtain ⟨k1,k2⟩:=key
  by_cases hk:k1 = d
  ·subst hk;refine .inl ⟨rfl,?_⟩
   rcases ho with ⟨g1,g2,g3⟩ | ⟨cn,t',k,rows,n,cap,g1,g2,g3⟩
   ·exact .inl ⟨g1,by rw [← kd]; exact g2,by rw [← vd]; exact g3⟩
   ·exact .inr ⟨cn,t',k,rows,n,cap,by rw [← kd]; exact g1,g2,by rw [← vd]; exact g3⟩
  ·exact .inr ⟨hk,ho.con (ko _ hk).symm (vo _ hk).symm⟩
 have old:∀ b key p,OwnB e.con val b key p → ¬ (w.heap.size ≤ b ∨ G b):=fun b key p ho hh=>hh.elim (fun hh=>by have:=h.mem.lt ho; omega) (hGo b key p ho);refine ⟨?_,h.defers,⟨fun key cn p c h1 h2=>?_,fun key t' xs2 h1=>?_,fun b key p key' p' h1 h2=>?_,fun b hb=>?_⟩,fun x=>?_,?_,fun b key p ho=>?_,fun x hx=>?_,fun b hb=>?_⟩
 ·simp [Act.put,Env.set,h.sz]
 ·obtain ⟨k1,k2⟩:=key
  by_cases hk:k1 = d
  ·subst hk;rw [kd] at h1;rw [vd];exact (hr.mem.node (0,k2) cn p c h1 h2).keep (fun _ hb _=>.inr hb) (fun _ _ _=>rfl) fun _ _ _ _ _ _ _ _ _ _=>rfl
  ·rw [ko _ hk] at h1;rw [vo _ hk];refine (h.mem.node _ cn p c h1 h2).keep (fun _ hb _=>.inl hb) hSk fun t' k rows b o n cap hcc hv hlt=>?_;subst hcc;exact hblk b hlt (hGo b _ p (.inr ⟨cn,t',k,rows,n,cap,h1,h2,o,hv⟩))
 ·obtain ⟨k1,k2⟩:=key
  by_cases hk:k1 = d
  ·subst hk;rw [kd] at h1;rw [vd];exact hr.mem.root (0,k2) t' xs2 h1
  ·rw [ko _ hk] at h1;rw [vo _ hk];exact (h.mem.root _ t' xs2 h1).keep fun b hv hlt=>hblk b hlt (hGo b _ [] (.inl ⟨rfl,⟨t',xs2,h1⟩,hv⟩))
 ·rcases own b key p h1 with ⟨k1,g1⟩ | ⟨k1,g1⟩ <;> rcases own b key' p' h2 with ⟨k3,g3⟩ | ⟨k3,g3⟩
  ·obtain ⟨g5,g6⟩:=hr.mem.inj _ _ _ _ _ g1 g3;refine ⟨?_,g6⟩;obtain ⟨x1,x2⟩:=key;obtain ⟨y1,y2⟩:=key';simp only at k1 k3 g5;simp at g5;rw [k1,k3,g5]
  ·exact absurd (hr.new _ _ _ g1) (old b _ _ g3)
  ·exact absurd (hr.new _ _ _ g3) (old b _ _ g1)
  ·exact h.mem.inj _ _ _ _ _ g1 g3
 ·rcases hb with hb | hb
  ·obtain ⟨g1,g2⟩:=h.mem.sep b hb;have hno:¬ (w.heap.size ≤ b ∨ G b):=fun hh=>hh.elim (fun hh=>by omega) (hGS b hb);refine ⟨Nat.lt_of_lt_of_le g1 hr.frm.size,fun key p ho=>?_⟩
   rcases own b key p ho with ⟨-,g3⟩ | ⟨-,g3⟩
   ·exact hno (hr.new _ _ _ g3)
   ·exact g2 _ _ g3
  ·obtain ⟨g1,g2⟩:=hr.mem.sep b hb;refine ⟨g1,fun key p ho=>?_⟩
   rcases own b key p ho with ⟨-,g3⟩ | ⟨-,g3⟩
   ·exact g2 _ _ g3
   ·rcases hr.newS b hb with (hh | hh) | hh
    ·have:=h.mem.lt g3; omega
    ·exact hGo b _ _ g3 hh
    ·exact (h.mem.sep b hh).2 _ _ g3
 ·rw [o8 (by rw [h.sz]; exact hd)]
  by_cases hx:x = d
  ·subst hx;rw [if_pos rfl];have e1:(e.set x (resAV res) fun i=>resCon res (0,i)).s x = resAV res:=by simp [Env.set]
   rw [e1]
   have htv:∀ (i:Nat) (tv:TV) (u:Value),TVok w' S2 (resCon res (0,i)) (val2 (0,i)) tv u → TVok w' (fun b=>S b ∨ S2 b) ((e.set x (resAV res) fun i=>resCon res (0,i)).con (x,i)) (dt x (fun i=>val2 (0,i)) val (x,i)) tv u:=fun i tv u hh=>by
    rw [kd,vd]; exact hh.keep (fun _ hb _=>.inr hb) fun _ _ _=>rfl
   have kd2:∀ (av:AV) i,(e.set x av fun i=>resCon res (0,i)).con (x,i) = resCon res (0,i):=fun av i=>by simp [Env.set]
   have hsv:=hr.sv
   generalize hrr:resAV res = av at hsv ⊢
   rw [hrr] at htv
   have hav:(∃ tv:TV,av = tv.av) ∨ ∃ ts,av = .tup ts:=by
    rw [← hrr];unfold resAV;split
    ·exact .inl ⟨_,rfl⟩
    ·exact .inr ⟨_,rfl⟩
   rcases hav with ⟨tv,rfl⟩ | ⟨ts,rfl⟩
   ·cases tv with
    | c y=>exact htv 0 (.c y) v hsv
    | agg ys=>exact htv 0 (.agg ys) v hsv
    | own ag n=>exact htv 0 (.own ag n) v hsv
   ·obtain ⟨vs,g1,g2,g3⟩:=hsv;refine ⟨vs,g1,g2,fun i tv hi=>?_⟩;obtain ⟨u,g4,g5⟩:=g3 i tv hi;exact ⟨u,g4,g5.imp (fun hh=>⟨by rw [kd2]; exact hh.1,hh.2⟩) fun hh=>htv (i + 1) tv u hh⟩
  ·rw [if_neg hx];have e1:(e.set d (resAV res) fun i=>resCon res (0,i)).s x = e.s x:=by simp [Env.set,hx]
   rw [e1]
   exact (h.slot x).keep (fun _ hb _=>.inl hb) hSk (fun i=>ko (x,i) hx) (fun i j=>by rw [vo (x,i) hx]) (by rw [vo (x,0) hx]) (im d _ _) fun r g p hg hf=>by
    obtain ⟨hr1,hf⟩:=e8 hg hf;exact ⟨hf,by rw [vo (r,0) hr1]⟩
 ·refine ⟨hr.frm.os.trans h.frm.os,hr.frm.tape.trans h.frm.tape,hr.frm.output.trans h.frm.output,Nat.le_trans h.frm.size hr.frm.size,fun k hk hg=>(hblk k (Nat.lt_of_lt_of_le hk h.frm.size) fun hgk=>?_).trans (h.frm.block k hk hg)⟩;exact (hGm _ hgk).elim (fun hh=>by omega) hg
 ·rcases own b key p ho with ⟨-,g1⟩ | ⟨-,g1⟩
  ·exact (hr.new _ _ _ g1).elim (fun hh=>.inl (Nat.le_trans h.frm.size hh)) (hGm b)
  ·exact h.low _ _ _ g1
 ·have hx:e.n ≤ x:=hx;rw [vo (x,0) (fun he=>by have he:x = d:=he; omega)]; exact h.rts _ hx
 ·rcases hb with hb | hb
  ·exact h.sS b hb
  ·rcases hr.newS b hb with (hh | hh) | hh
   ·exact .inl (.inl (Nat.le_trans h.frm.size hh))
   ·exact .inl (hGm _ hh)
   ·exact h.sS b hh
theorem px {f:FuncId} {args:Array Operand} {tys:Array TypeId} (ho:o.op = .call { callee:=.value (.func f),args,argTypes:=tys }) (hok:ap P f = true):(execOp a.eval o).run P w = .ok (.enter f (args.map a.eval)) w:=by
 have hfn : ∃ fn, P.funcs[f]? = some fn ∧ fn.body.isSome = true ∧ (fn.name == "runtime.NumGoroutine") = false := by
  unfold ap at hok;split at hok
  ·rename_i fn hfn
   simp only [Bool.and_eq_true,bne_iff_ne] at hok;exact ⟨fn,hfn,hok.1,by simpa using hok.2⟩
  ·cases hok
 obtain ⟨fn,hfn,hbody,hname⟩:=hfn;unfold execOp;simp only [ho,resolve,Act.eval,Deferred.ofValue,Sem.run_bind,Sem.run_pure,Result.andThen_ok,invoke,callFunc,run_program,hfn,hname];simp [Option.isSome_iff_ne_none.1 hbody]
theorem xw {f:FuncId} {vs:Array Value} {as:List Arg} {ro:Bool} {Post:Res → Prop} {d:Nat} (hen:(execOp a.eval o).run P w = .ok (.enter f vs) w) (hdo:o.dst = some d) (hs:StV w0 e a w val S) (hdn:d < e.n) (h0:(as[0]?).map Arg.isIo ≠ some true)
 (hl:as.length = vs.size) (ha:∀ (i:Nat) (x:Arg),as[i]? = some x → ∃ u,vs[i]? = some u ∧ fi w x u ∧ (ro = true → dq w S x u)) (hx:kw P f ro as Post) (hK:∀ r,Post r → K (upds (Ad d r) e)) :
 o.wp P a w (fun a' w'=>∃ e',K e' ∧ St w0 e' a' w') Qx:=by
 unfold Oper.wp;rw [hen,Oper.upon_enter];rw [gt h0] at hx
 have hcall:Calls P f vs w fun e w'=>∃ r v val S2,Post r ∧ e = .returned v ∧ Mq w w' S r v val S2:=by
  rcases hx with hx | ⟨hro,hx⟩
  ·refine (hx w vs hl.symm fun i x hi=>?_).mono fun _ _ ⟨r,v,val,S2,g1,g2,g3⟩=>⟨r,v,val,S2,g1,g2,g3.toS⟩;obtain ⟨u,g1,g2,-⟩:=ha i x hi;exact ⟨u,g1,g2⟩
  ·rw [qc h0] at hx;refine hx w vs S hl.symm (fun b hb=>(hs.mem.sep b hb).1) fun i x hi=>?_;obtain ⟨u,g1,-,g2⟩:=ha i x hi;exact ⟨u,g1,g2 hro⟩
 refine hcall.mono ?_;rintro e' w' ⟨r,v,val2,S2,hP,rfl,hret⟩;refine ⟨_,hK r hP,dt d (fun i=>val2 (0,i)) val,fun b=>S b ∨ S2 b,?_⟩;rw [hdo];exact hs.ret hdn hret
theorem Ea {f:FuncId} {args:Array Operand} {as:List Arg} {ro:Bool} {Post:Res → Prop} {d:Nat} {tys:Array TypeId} (ho:o.op = .call { callee:=.value (.func f),args,argTypes:=tys }) (hdo:o.dst = some d) (hs:StV w0 e a w val S) (hdn:d < e.n) (hok:ap P f = true) (h0:(as[0]?).map Arg.isIo ≠ some true)
 (hl:as.length = args.size) (ha:∀ (i:Nat) (x:Arg),as[i]? = some x → ∃ u,(args.toList.map a.eval)[i]? = some u ∧ fi w x u ∧ (ro = true → dq w S x u)) (hx:kw P f ro as Post) (hK:∀ r,Post r → K (upds (Ad d r) e)) :
 o.wp P a w (fun a' w'=>∃ e',K e' ∧ St w0 e' a' w') Qx :=
 xw (px ho hok) hdo hs hdn h0 (by simp [hl]) (fun i x hi=>by
  obtain ⟨u,g1,g2⟩:=ha i x hi
  exact ⟨u,by simpa using g1,g2⟩) hx hK
theorem Df {x:Arg} {v:Value} (h:fi w x v):x.isIo = false:=by
 cases x with
 | io t xs=>exact h.elim
 | own ag xs=>exact h.elim
 | _=>rfl
theorem i9:∀ (us vs:List Upd) (e:Env),upds (us ++ vs) e = upds vs (upds us e)
 | [],_,_=>rfl
 | u :: us,vs,e=>i9 us vs (u.on e)
theorem jcy {ro:Bool} {no:List Nat} {xs:List Operand} {as:List Arg} (h4:as.length = xs.length) (h5:∀ (i:Nat) (x:Arg),as[i]? = some x → ∃ u,(xs.map a.eval)[i]? = some u ∧ fi w x u ∧ (ro = true → dq w S x u) ∧ dq w (D7 e.con val S no) x u):(as[0]?).map Arg.isIo ≠ some true:=by
 cases as with
 | nil=>simp
 | cons y as =>
  obtain ⟨u,-,h6,-⟩:=h5 0 y rfl;simp [Df h6]
theorem R8 {ro:Bool} {vs:Array Value} {as:List Arg} (ha:∀ (i:Nat) (x:Arg),as[i]? = some x → ∃ u,vs[i]? = some u ∧ fi w x u ∧ (ro = true → dq w S x u)):(as[0]?).map Arg.isIo ≠ some true:=by
 cases as with
 | nil=>simp
 | cons y as =>
  obtain ⟨u,-,h6,-⟩:=ha 0 y rfl;simp [Df h6]
theorem O2 {r g:Nat} {u:Value} (h2:SV e w val S 0 (.ptr r g [(0,0)] 0) u) (hfresh:e.fresh r g []):u = val (r,0) []:=by
 obtain ⟨-,hptr⟩:=h2;obtain ⟨p',j,q,b,o,hp,hev,hpt⟩:=hptr hfresh
 have hpp:p' = [] ∧ (j,q) = (0,0):=by
  have:=List.append_inj' (show [] ++ [((0,0):Nat × Nat)] = p' ++ [(j,q)] from hp) rfl;exact ⟨this.1.symm,by simpa using this.2.symm⟩
 obtain ⟨rfl,hjq⟩:=hpp;cases hjq
 rcases hpt with ⟨-,-,rfl,h9⟩ | ⟨h9,-⟩
 ·rw [hev,h9]
 ·exact absurd rfl h9
theorem jbb {r g:Nat} {t0:TypeId} {ys:List C} {u:Value} (hw0:e.whole r g = some (t0,ys)) (h2:SV e w val S 0 (.ptr r g [(0,0)] 0) u):e.con (r,0) = some ⟨some t0,ys⟩ ∧ u = val (r,0) []:=by
 obtain ⟨hcn,hfresh⟩:=Ec hw0;exact ⟨hcn,O2 h2 hfresh⟩
theorem Ls {f:FuncId} {args:Array Operand} {x:Operand} {xs:List Operand} {as:List Arg} {ro:Bool} {Post:Res → Prop} {d r:Nat} {t0:TypeId} {ys:List C} {tys:Array TypeId} (ho:o.op = .call { callee:=.value (.func f),args,argTypes:=tys }) (hd:o.dst = some d) (hs:StV w0 e a w val S) (hdn:d < e.n) (hok:ap P f = true)
 (hdr:d ≠ r) (hcn:e.con (r,0) = some ⟨some t0,ys⟩) (hroot:a.eval x = val (r,0) []) (hargs:args = (x :: xs).toArray) (h4:as.length = xs.length)
 (h5:∀ (i:Nat) (x:Arg),as[i]? = some x → ∃ u,(xs.map a.eval)[i]? = some u ∧ fi w x u ∧ (ro = true → dq w S x u) ∧ dq w (D7 e.con val S [r]) x u)
 (h7:j3 P f t0 ys as Post ∨ (ro = true ∧ dr P f (.io t0 ys :: as) Post)) (hK:∀ r',Post r' → K (upds (ioU r d r') e)):o.wp P a w (fun a' w'=>∃ e',K e' ∧ St w0 e' a' w') Qx:=by
 unfold Oper.wp;rw [px ho hok,Oper.upon_enter]
 obtain ⟨val0,hval0⟩:∃ val0:Val,val0 = fun key=>if key = (1,0) then val (r,0) else val key:=⟨_,rfl⟩
 have v10:val0 (1,0) = val (r,0):=by rw [hval0]; simp
 have ioS:∀ key cn,dw t0 ys [] key = some cn → key = (1,0) ∧ cn = ⟨some t0,ys⟩:=fun key cn hk=>by
  unfold dw at hk;split at hk
  ·rename_i h9; cases hk; exact ⟨h9,rfl⟩
  ·exfalso
   have hn:resCon [] key = none:=by
    unfold resCon;split
    ·dsimp only;split <;> simp
    ·rfl
   rw [hn] at hk; cases hk
 have io1:dw t0 ys [] (1,0) = some ⟨some t0,ys⟩:=by unfold dw; rw [if_pos rfl]
 have hown:∀ b key p,OwnB (dw t0 ys []) val0 b key p → key = (1,0) ∧ OwnB e.con val b (r,0) p:=fun b key p hb=>by
  obtain ⟨cn,hk⟩:=hb.some;obtain ⟨rfl,rfl⟩:=ioS _ _ hk;refine ⟨rfl,?_⟩
  rcases hb with ⟨k1,⟨t',zs,k2⟩,k3⟩ | ⟨cn,t',k,rows,n,cap,k1,k2,k3⟩
  ·rw [v10] at k3; exact .inl ⟨k1,⟨t0,ys,hcn⟩,k3⟩
  ·rw [hk] at k1; cases k1; rw [v10] at k3; exact .inr ⟨_,t',k,rows,n,cap,hcn,k2,k3⟩
 have hown2:∀ b p,OwnB e.con val b (r,0) p → OwnB (dw t0 ys []) val0 b (1,0) p:=fun b p hb=>by
  rcases hb with ⟨k1,⟨t',zs,k2⟩,k3⟩ | ⟨cn,t',k,rows,n,cap,k1,k2,k3⟩
  ·exact .inl ⟨k1,⟨t0,ys,io1⟩,by rw [v10]; exact k3⟩
  ·rw [hcn] at k1; cases k1; exact .inr ⟨_,t',k,rows,n,cap,io1,k2,by rw [v10]; exact k3⟩
 have hG:Do val0 t0 ys = fun b=>∃ p,OwnB e.con val b (r,0) p:=by
  funext b;exact propext ⟨fun ⟨p,hp⟩=>⟨p,(hown _ _ _ hp).2⟩,fun ⟨p,hp⟩=>⟨p,hown2 _ _ hp⟩⟩
 have hm0:MemOk w (dw t0 ys []) val0 S:=⟨fun key cn p c k1 k2=>by
  obtain ⟨rfl,rfl⟩:=ioS _ _ k1
  rw [v10]; exact hs.mem.node _ _ _ _ hcn k2,fun key t' zs k1=>by
  obtain ⟨rfl,k2⟩:=ioS _ _ k1;cases k2
  rw [v10]; exact hs.mem.root _ _ _ hcn,fun b key p key' p' k1 k2=>by
  obtain ⟨rfl,g1⟩:=hown _ _ _ k1;obtain ⟨rfl,g2⟩:=hown _ _ _ k2
  exact ⟨rfl,(hs.mem.inj _ _ _ _ _ g1 g2).2⟩,fun b hb=>⟨(hs.mem.sep b hb).1,fun key p k1=>(hs.mem.sep b hb).2 _ _ (hown _ _ _ k1).2⟩⟩
 have hcall:Calls P f (args.map a.eval) w fun e w'=>∃ r xs' v val S',xs'.length = ys.length ∧ Post (.own true xs' :: r) ∧ e = .returned v ∧ Dl w w' (Do val0 t0 ys) S t0 xs' (val0 (1,0) []) r v val S':=by
  rcases h7 with h7 | ⟨hro,h7⟩
  ·refine h7 w (args.map a.eval) val0 S (D7 e.con val S [r]) (by rw [hargs]; simp [h4]) hm0 (by rw [hargs,v10,← hroot]; simp) (fun b hb=>?_) fun i y hy=>?_
   ·rcases hb with hb | ⟨key,p,hk,hb⟩
    ·exact ⟨(hs.mem.sep b hb).1,fun ⟨p,hp⟩=>(hs.mem.sep b hb).2 _ _ (hown _ _ _ hp).2⟩
    ·exact ⟨hs.mem.lt hb,fun ⟨p,hp⟩=>hk r (by simp) (hs.mem.inj _ _ _ _ _ hb (hown _ _ _ hp).2).1⟩
   ·obtain ⟨u,k1,-,-,k2⟩:=h5 i y hy;exact ⟨u,by rw [hargs]; simpa using k1,k2⟩
  ·refine h7 w (args.map a.eval) val0 S (by rw [hargs]; simp [h4]) hm0 (by rw [hargs,v10,← hroot]; simp) fun i y hy=>?_;obtain ⟨u,k1,-,k2,-⟩:=h5 i y hy;exact ⟨u,by rw [hargs]; simpa using k1,k2 hro⟩
 refine hcall.mono ?_;rintro e' w' ⟨res,xs',v,val2,S2,hlen,hP,rfl,hret⟩;rw [hG,v10] at hret;have hfin:=hK _ hP
 have hupd:upds (ioU r d (.own true xs' :: res)) e = ((e.puts r [(0,0)] 0 xs').set d (resAV res) fun i=>resCon res (0,i)):=by
  show upds (putsU r [(0,0)] 0 xs' ++ [.set d (resAV res) fun i=>resCon res (0,i)]) e = _;rw [i9,nu]; rfl
 rw [hupd] at hfin;have hfinal:=hs.retIO hdn hdr hcn hlen (fun b ⟨p,hp⟩=>hs.low _ _ _ hp) (fun b key p ho hk ⟨p',hp'⟩=>hk (hs.mem.inj _ _ _ _ _ ho hp').1) (fun b hb ⟨p,hp⟩=>(hs.mem.sep b hb).2 _ _ hp) hret;exact ⟨_,hfin,_,_,by rw [hd]; exact hfinal⟩
def Gv (val:Val) (r r2:Nat):Val:=fun key=>if key = (1,0) then val (r,0) else if key = (2,0) then val (r2,0) else val key
theorem Qq {io:Option (TypeId × List C)} {r r2 n:Nat} {ag:Bool} {cs:List C} {v:Value} {cn:Con} (g:Given e w val S r2 n ag cs v cn) (hio:∀ t ys,io = some (t,ys) → e.con (r,0) = some ⟨some t,ys⟩) {b:Nat} {key:bh} {p:aj} (h:OwnB (u7 io cs) (Gv val r r2) b key p) :
 (key = (1,0) ∧ (∃ x,io = some x) ∧ OwnB e.con val b (r,0) p) ∨ (key = (2,0) ∧ OwnB e.con val b (r2,0) p ∧ ∃ i z,i < n ∧ p = (0,i) :: z):=by
 obtain ⟨cn',hk⟩:=h.some;unfold u7 at hk;split at hk
 ·rename_i h1
  subst h1
  cases io with
  | none=>cases hk
  | some x =>
   cases hk;have hc:=hio x.1 x.2 rfl;refine .inl ⟨rfl,⟨x,rfl⟩,?_⟩
   rcases h with ⟨k1,⟨t',zs,k2⟩,k3⟩ | ⟨cn,t',k,rows,n,cap,k1,k2,k3⟩
   ·exact .inl ⟨k1,⟨_,_,hc⟩,k3⟩
   ·cases k1; exact .inr ⟨_,t',k,rows,n,cap,hc,k2,k3⟩
 ·split at hk
  ·rename_i h1 h2
   subst h2;cases hk;refine .inr ⟨rfl,?_⟩
   rcases h with ⟨k1,⟨t',zs,k2⟩,k3⟩ | ⟨cn,t',k,rows,n,cap,k1,k2,k3⟩
   ·cases k2
   ·cases k1;obtain ⟨k4,k5⟩:=g.look_ k2;exact ⟨.inr ⟨_,t',k,rows,n,cap,g.con,k4,k3⟩,k5⟩
  ·cases hk
theorem jcr {io:Option (TypeId × List C)} {r r2 n:Nat} {ag:Bool} {cs:List C} {v:Value} {cn:Con} (hs:StV w0 e a w val S) (g:Given e w val S r2 n ag cs v cn) (hio:∀ t ys,io = some (t,ys) → e.con (r,0) = some ⟨some t,ys⟩) (hr:∀ x,io = some x → r ≠ r2):MemOk w (u7 io cs) (Gv val r r2) S:=by
 refine ⟨fun key cn' p c k1 k2=>?_,fun key t' zs k1=>?_,fun b key p key' p' k1 k2=>?_,fun b hb=>⟨(hs.mem.sep b hb).1,fun key p k1=>?_⟩⟩
 ·unfold u7 at k1;split at k1
  ·rename_i h1
   subst h1
   cases io with
   | none=>cases k1
   | some x=>cases k1; exact hs.mem.node _ _ _ _ (hio x.1 x.2 rfl) k2
  ·split at k1
   ·rename_i h1 h2
    subst h2;cases k1;exact hs.mem.node _ _ _ _ g.con (g.look_ k2).1
   ·cases k1
 ·unfold u7 at k1;split at k1
  ·rename_i h1
   subst h1
   cases io with
   | none=>cases k1
   | some x=>cases k1; exact hs.mem.root _ _ _ (hio x.1 x.2 rfl)
  ·split at k1 <;> cases k1
 ·rcases Qq g hio k1 with ⟨rfl,⟨x,hx⟩,g1⟩ | ⟨rfl,g1,-⟩ <;> rcases Qq g hio k2 with ⟨rfl,⟨y,hy⟩,g2⟩ | ⟨rfl,g2,-⟩
  ·exact ⟨rfl,(hs.mem.inj _ _ _ _ _ g1 g2).2⟩
  ·exact absurd (hs.mem.inj _ _ _ _ _ g1 g2).1 (by have:=hr x hx; simp [this])
  ·exact absurd (hs.mem.inj _ _ _ _ _ g1 g2).1.symm (by have:=hr y hy; simp [this])
  ·exact ⟨rfl,(hs.mem.inj _ _ _ _ _ g1 g2).2⟩
 ·rcases Qq g hio k1 with ⟨-,-,g1⟩ | ⟨-,g1,-⟩
  ·exact (hs.mem.sep b hb).2 _ _ g1
  ·exact (hs.mem.sep b hb).2 _ _ g1
theorem jcq {io:Option (TypeId × List C)} {r r2 n:Nat} {ag:Bool} {cs:List C} {v:Value} {cn:Con} (hs:StV w0 e a w val S) (g:Given e w val S r2 n ag cs v cn) (hio:∀ t ys,io = some (t,ys) → e.con (r,0) = some ⟨some t,ys⟩) :
 (∀ b,Ms io cs (Gv val r r2) b → w0.mine b) ∧ (∀ b,S b → ¬ Ms io cs (Gv val r r2) b) ∧ (∀ b key p,OwnB e.con val b key p → (∀ x,io = some x → key ≠ (r,0)) → (∀ i,i < n → ¬ (key = (r2,0) ∧ [(0,i)] <+: p)) → ¬ Ms io cs (Gv val r r2) b):=by
 refine ⟨fun b ⟨key,p,hp⟩=>?_,fun b hb ⟨key,p,hp⟩=>?_,fun b key p ho h1 h2 ⟨key',p',hp⟩=>?_⟩
 ·rcases Qq g hio hp with ⟨-,-,g1⟩ | ⟨-,g1,-⟩ <;> exact hs.low _ _ _ g1
 ·rcases Qq g hio hp with ⟨-,-,g1⟩ | ⟨-,g1,-⟩ <;> exact (hs.mem.sep b hb).2 _ _ g1
 ·rcases Qq g hio hp with ⟨-,⟨x,hx⟩,g1⟩ | ⟨-,g1,i,z,hi,rfl⟩
  ·exact h1 x hx (hs.mem.inj _ _ _ _ _ ho g1).1
  ·obtain ⟨g2,g3⟩:=hs.mem.inj _ _ _ _ _ ho g1;exact h2 i hi ⟨g2,by rw [g3]; exact ⟨z,rfl⟩⟩
theorem Gu {f:FuncId} {args:Array Operand} {x:Operand} {xs:List Operand} {as:List Arg} {ro:Bool} {Post:Res → Prop} {d r2 n:Nat} {ag:Bool} {cs:List C} {cn:Con} {tys:Array TypeId} (ho:o.op = .call { callee:=.value (.func f),args,argTypes:=tys }) (hd:o.dst = some d) (hs:StV w0 e a w val S) (hdn:d < e.n) (hok:ap P f = true)
 (g:Given e w val S r2 n ag cs (a.eval x) cn) (hargs:args = (x :: xs).toArray) (h4:as.length = xs.length)
 (h5:∀ (i:Nat) (x:Arg),as[i]? = some x → ∃ u,(xs.map a.eval)[i]? = some u ∧ fi w x u ∧ (ro = true → dq w S x u) ∧ dq w (D7 e.con val S [r2]) x u)
 (h7:Vw P f ag cs as Post) (hK:∀ r',Post r' → K (upds (holesU r2 [(0,0)] n ++ Ad d r') e)):o.wp P a w (fun a' w'=>∃ e',K e' ∧ St w0 e' a' w') Qx:=by
 unfold Oper.wp;rw [px ho hok,Oper.upon_enter];have hio:∀ t ys,(none:Option (TypeId × List C)) = some (t,ys) → e.con (0,0) = some ⟨some t,ys⟩:=fun _ _ h=>by cases h
 obtain ⟨g1,g2,g3⟩:=jcq (r:=0) hs g hio;have hcall:=h7 w (args.map a.eval) (Gv val 0 r2) S (D7 e.con val S [r2]) (by rw [hargs]; simp [h4]) (jcr hs g hio (fun _ h=>by cases h)) ⟨a.eval x,by rw [hargs]; simp,g.val_⟩ (fun b hb=>?_) fun i y hy=>?_
 ·refine hcall.mono ?_;rintro e' w' ⟨res,v,val2,S2,hP,rfl,hret⟩;obtain ⟨k1,k2⟩:=hs.holes g.con n g.le;have hfin:=hK _ hP;rw [i9,gh] at hfin;refine ⟨_,hfin,?_⟩;rw [hd];exact ⟨_,_,k1.retN (by rw [ms]; exact hdn) g1 (fun b key p hob=>g3 b key p (k2 _ _ _ hob).1 (fun _ h=>by cases h) (k2 _ _ _ hob).2) g2 hret⟩
 ·rcases hb with hb | ⟨key,p,hk,hb⟩
  ·exact ⟨(hs.mem.sep b hb).1,g2 b hb⟩
  ·exact ⟨hs.mem.lt hb,g3 b key p hb (fun _ h=>by cases h) fun i _ hh=>hk r2 (by simp) hh.1⟩
 ·obtain ⟨u,k1,-,-,k2⟩:=h5 i y hy;exact ⟨u,by rw [hargs]; simpa using k1,k2⟩
theorem Ji {f:FuncId} {args:Array Operand} {x x2:Operand} {xs:List Operand} {as:List Arg} {no:List Nat} {Post:Res → Prop} {d r r2 n:Nat} {t0:TypeId} {ys:List C} {ag:Bool} {cs:List C} {cn:Con} {tys:Array TypeId} (ho:o.op = .call { callee:=.value (.func f),args,argTypes:=tys }) (hd:o.dst = some d) (hs:StV w0 e a w val S) (hdn:d < e.n) (hok:ap P f = true)
 (hdr:d ≠ r) (hrr:r ≠ r2) (hcn:e.con (r,0) = some ⟨some t0,ys⟩) (hroot:a.eval x = val (r,0) []) (g:Given e w val S r2 n ag cs (a.eval x2) cn) (hargs:args = (x :: x2 :: xs).toArray) (h4:as.length = xs.length)
 (h5:∀ (i:Nat) (x:Arg),as[i]? = some x → ∃ u,(xs.map a.eval)[i]? = some u ∧ fi w x u ∧ (true = true → dq w S x u) ∧ dq w (D7 e.con val S no) x u)
 (h7:tc P f t0 ys ag cs as Post) (hK:∀ r',Post r' → K (upds (holesU r2 [(0,0)] n ++ ioU r d r') e)):o.wp P a w (fun a' w'=>∃ e',K e' ∧ St w0 e' a' w') Qx:=by
 unfold Oper.wp;rw [px ho hok,Oper.upon_enter];have hio:∀ t ys',some (t0,ys) = some (t,ys') → e.con (r,0) = some ⟨some t,ys'⟩:=fun _ _ h=>by cases h; exact hcn
 obtain ⟨g1,g2,g3⟩:=jcq (r:=r) hs g hio;have v10:Gv val r r2 (1,0) = val (r,0):=by unfold Gv; rw [if_pos rfl]
 have hcall:=h7 w (args.map a.eval) (Gv val r r2) S (by rw [hargs]; simp [h4]) (jcr hs g hio (fun _ _=>hrr)) (by rw [hargs,v10,← hroot]; simp) ⟨a.eval x2,by rw [hargs]; simp,g.val_⟩ fun i y hy=>?_
 ·refine hcall.mono ?_;rintro e' w' ⟨res,xs',v,val2,S2,hlen,hP,rfl,hret⟩;rw [v10] at hret;obtain ⟨k1,k2⟩:=hs.holes g.con n g.le;have hfin:=hK _ hP
  have hupd:upds (holesU r2 [(0,0)] n ++ ioU r d (.own true xs' :: res)) e = (((e.holes r2 [(0,0)] n).puts r [(0,0)] 0 xs').set d (resAV res) fun i=>resCon res (0,i)):=by
   rw [i9,gh];show upds (putsU r [(0,0)] 0 xs' ++ [.set d (resAV res) fun i=>resCon res (0,i)]) _ = _;rw [i9,nu]; rfl
  rw [hupd] at hfin;refine ⟨_,hfin,?_⟩;rw [hd];exact ⟨_,_,k1.retIO (by rw [ms]; exact hdn) hdr (by rw [oh,ke (by simp [hrr])]; exact hcn) hlen g1 (fun b key p hob hk=>g3 b key p (k2 _ _ _ hob).1 (fun _ _=>hk) (k2 _ _ _ hob).2) g2 hret⟩
 ·obtain ⟨u,k1,-,k2,-⟩:=h5 i y hy;exact ⟨u,by rw [hargs]; simpa using k1,k2 rfl⟩
theorem Sd {args:Array Operand} {xs:List Operand} (h:args.toList = xs):args = xs.toArray:=by rw [← h]
theorem Jm {f:FuncId} {args:Array Operand} {tys:Array TypeId} {s:Nat} {vs:Array Value} (ho:o.op = .call { callee:=.value (.tmp s),args,argTypes:=tys }) (hok:ap P f = true) (hv:a.tmps.getD s undef = .func (.func f) #[] vs):(execOp a.eval o).run P w = .ok (.enter f (args.map a.eval ++ vs)) w:=by
 have hfn : ∃ fn, P.funcs[f]? = some fn ∧ fn.body.isSome = true ∧ (fn.name == "runtime.NumGoroutine") = false := by
  unfold ap at hok;split at hok
  ·rename_i fn hfn
   simp only [Bool.and_eq_true,bne_iff_ne] at hok;exact ⟨fn,hfn,hok.1,by simpa using hok.2⟩
  ·cases hok
 obtain ⟨fn,hfn,hbody,hname⟩:=hfn;have hv:a.eval (.tmp s) = .func (.func f) #[] vs:=hv;unfold execOp;simp only [ho,resolve,hv,Deferred.ofValue,Sem.run_bind,Sem.run_pure,Result.andThen_ok,invoke,callFunc,run_program,hfn,hname];simp [Option.isSome_iff_ne_none.1 hbody]
theorem Gw {s:Nat} {args:Array Operand} {tys:Array TypeId} (ho:o.op = .call { callee:=.value (.tmp s),args,argTypes:=tys }):fh P nn o (sr P nn o.dst s args.toList):=by
 intro ct t e K w0 a w Qx hct hn hq ⟨val,S,hs⟩;unfold sr at hq;obtain ⟨av,h1,h2,-⟩:=de (x:=.tmp s) hq hs;split at h1
 ·rename_i g css d hd
  split at h1
  ·rename_i hh
   obtain ⟨hdn,hok⟩:=hh;obtain ⟨vs,hv,h3,h4⟩:=h2 rfl 0;obtain ⟨ro,as,h5,h6,Post,h7,h8⟩:=jy hs _ h1;have h5':as.length = (args.map a.eval).size:=by simp [h5]
   have ha:∀ (i:Nat) (x:Arg),(as ++ css.map Arg.rp)[i]? = some x → ∃ u,(args.map a.eval ++ vs)[i]? = some u ∧ fi w x u ∧ (ro = true → dq w S x u):=fun i x hi=>by
    by_cases hil:i < as.length
    ·rw [List.getElem?_append_left hil] at hi;obtain ⟨u,g1,g2,g3,-⟩:=h6 i x hi;exact ⟨u,by rw [Array.getElem?_append_left (by omega)]; simpa using g1,g2,g3⟩
    ·rw [List.getElem?_append_right (by omega),List.getElem?_map] at hi
     cases hc:css[i - as.length]? with
     | none=>rw [hc] at hi; cases hi
     | some ys =>
      rw [hc] at hi;cases hi;obtain ⟨u,g1,g2⟩:=h4 _ ys hc;exact ⟨u,by rw [Array.getElem?_append_right (by omega),← h5']; exact g1,RPok.keep g2 (fun _ _ _=>trivial) fun _ _ _=>rfl,fun _=>g2⟩
   refine xw (Jm ho hok hv) hd hs (by omega) (R8 ha) (by simp [h5,h3]) ha (hct _ _ _ _ h7) fun r hp=>(h8 r hp).2
  ·exact h1.elim
 ·rename_i g d hd
  split at h1
  ·rename_i hh
   obtain ⟨hdn,hok⟩:=hh;have hv:=fp (h2 rfl 0);obtain ⟨ro,as,h5,h6,Post,h7,h8⟩:=jy hs _ h1
   have ha:∀ (i:Nat) (x:Arg),as[i]? = some x → ∃ u,(args.map a.eval ++ #[])[i]? = some u ∧ fi w x u ∧ (ro = true → dq w S x u):=fun i x hi=>by
    obtain ⟨u,g1,g2,g3,-⟩:=h6 i x hi;exact ⟨u,by simpa using g1,g2,g3⟩
   exact xw (Jm ho hok hv) hd hs (by omega) (R8 ha) (by simp [h5]) ha (hct _ _ _ _ h7) fun r hp=>(h8 r hp).2
  ·exact h1.elim
 ·exact h1.elim
theorem Fs (hs:StV w0 e a w val S):∀ (xs:List Operand) {k:List (Nat × Nat) → Q},ah ct t (zx xs k) e K → ∃ rs:List (Nat × Nat),rs.length = xs.length ∧ (∀ (i r g:Nat),rs[i]? = some (r,g) → ∃ u,(xs.map a.eval)[i]? = some u ∧ g ≤ e.gen r ∧ (e.fresh r g [] → u = val (r,0) [])) ∧ ah ct t (k rs) e K
 | [],k,h=>⟨[],rfl,fun i r g hi=>by simp at hi,h⟩
 | x :: xs,k,h=>by
  unfold zx at h;obtain ⟨av,h1,h2,-⟩:=de h hs;split at h1
  ·rename_i rg hbx
   obtain ⟨r,g⟩:=rg
   have hav:av = .ptr r g [(0,0)] 0:=by
    unfold isBoxP at hbx;split at hbx
    ·cases hbx; rfl
    ·cases hbx
   subst hav;obtain ⟨rs,h3,h4,h5⟩:=Fs hs xs h1;refine ⟨(r,g) :: rs,by simp [h3],fun i r' g' hi=>?_,h5⟩
   cases i with
   | zero =>
    simp at hi;obtain ⟨rfl,rfl⟩:=hi;have hsv:=h2 rfl 0;exact ⟨_,rfl,hsv.1,fun hf=>(O2 hsv hf)⟩
   | succ i=>simp at hi; simpa using h4 i r' g' hi
  ·exact h1.elim
theorem Lj {g:FuncId} {caps:Array Operand} (ho:o.op = .makeFunc (.func g) #[] caps):fh P nn o (Ch nn o.dst g caps.toList):=by
 intro ct t e K w0 a w Qx hct hn hq ⟨val,S,hs⟩;unfold Ch at hq;obtain ⟨rs,h1,h2,h3⟩:=Fs hs _ hq;refine b0 h3 hn hs (Below.refl _ _) (v:=.func (.func g) #[] (caps.map a.eval)) ?_ fun _=>⟨0,?_⟩
 ·unfold execOp; simp only [ho,Instr.makeFunc,Sem.run_bind,Sem.run_pure,Result.andThen_ok]; simp
 ·refine ⟨_,rfl,by simp [h1],fun i r g' hi=>?_⟩;obtain ⟨u,g1,g2,g3⟩:=h2 i r g' hi;exact ⟨g2,fun hf=>by rw [← g3 hf]; simpa using g1⟩
theorem Mi {f:FuncId} {args:Array Operand} {tys:Array TypeId} (ho:o.op = .call { callee:=.value (.func f),args,argTypes:=tys }):fh P nn o (kh P nn o.dst f args.toList):=by
 intro ct t e K w0 a w Qx hct hn hq ⟨val,S,hs⟩;unfold kh at hq;split at hq
 ·rename_i d hd
  split at hq
  ·rename_i hh
   obtain ⟨hdn,hok⟩:=hh;unfold qg at hq;split at hq
   ·rename_i x xs hxs
    obtain ⟨av,h1,h2,-⟩:=de hq hs;split at h1
    ·rename_i r g hbx
     have hav:av = .ptr r g [(0,0)] 0:=by
      unfold isBoxP at hbx;split at hbx
      ·cases hbx; rfl
      ·cases hbx
     subst hav;split at h1
     ·rename_i hdr
      have h3:=h1.2;dsimp only at h3;split at h3
      ·rename_i t0 ys hw0
       obtain ⟨hcn,hroot⟩:=jbb hw0 (h2 rfl 0)
       rcases h3 with h3 | ⟨-,h3⟩
       ·obtain ⟨ro,as,h4,h5,Post,h7,h8⟩:=jy hs _ h3;have h7:=hct _ _ _ _ h7;rw [xr (jcy h4 h5)] at h7;exact Ls ho hd hs (by omega) hok hdr hcn hroot (Sd hxs) h4 h5 h7 fun r hr=>(h8 r hr).2
       ·split at h3
        ·rename_i x2 xs2
         obtain ⟨av2,h4,h5,-⟩:=de h3 hs;obtain ⟨r2,n,ag,cs,cn,h6,h7,h8⟩:=Fa hs h5 h4;obtain ⟨ro,as,h9,h10,h11⟩:=jy hs _ h8;split at h11
         ·rename_i hro
          subst hro;obtain ⟨Post,h12,h13⟩:=h11;have h12:=hct _ _ _ _ h12;exact Ji ho hd hs (by omega) hok hdr (fun hh=>by subst hh; simp at h6) hcn hroot h7 (Sd hxs) h9 h10 h12.2 fun r hr=>(h13 r hr).2
         ·exact h11.elim
        ·exact h3.elim
      ·exact h3.elim
     ·exact h1.elim
    ·rcases h1 with h1 | ⟨-,h1⟩
     ·obtain ⟨b,ar,h3,h3s,-,h4⟩:=J7 hs h2 h1;obtain ⟨bs,as,h5,h6,h7⟩:=jy hs xs h4;obtain ⟨Post,h8,h9⟩:=h7;have hargs:args.toList = x :: xs:=hxs;refine Ea (as:=ar :: as) (ro:=b && bs) ho hd hs (by omega) hok (by simp [Df h3]) (by have:=congrArg List.length hargs; simp at this; simp [h5,this]) (fun i y hy=>?_) (hct _ _ _ _ h8) fun r hr=>(h9 r hr).2;rw [hargs]
      cases i with
      | zero=>simp at hy; subst hy; exact ⟨_,rfl,h3,fun hb=>h3s (by simp at hb; exact hb.1)⟩
      | succ i=>simp at hy; obtain ⟨u,h10,h11,h12,-⟩:=h6 i y hy; exact ⟨u,by simpa using h10,h11,fun hb=>h12 (by simp at hb; exact hb.2)⟩
     ·obtain ⟨r2,n,ag,cs,cn,h6,h7,h8⟩:=Fa hs h2 h1;obtain ⟨ro,as,h9,h10,Post,h11,h12⟩:=jy hs _ h8;exact Gu ho hd hs (by omega) hok h7 (Sd hxs) h9 h10 (hct _ _ _ _ h11) fun r hr=>(h12 r hr).2
   ·rename_i hxs
    obtain ⟨Post,h8,h9⟩:=hq;refine Ea (as:=[]) (ro:=true) ho hd hs (by omega) hok (by simp) (by have:=congrArg List.length hxs; simpa using this.symm) (fun i y hy=>by simp at hy) (hct _ _ _ _ h8) fun r hr=>(h9 r hr).2
  ·exact hq.elim
 ·exact hq.elim
theorem StV.extract (h:StV w0 e a w val S) {s i d:Nat} {ag:Bool} {n:Nat} {v:Value} {cn:Con} (hd:d < e.n) (hsd:d ≠ s) (hc:e.con (s,i + 1) = some cn) (hv:TVok w S (some cn) (val (s,i + 1)) (.own ag n) v) :
 StV w0 ((e.drop s i).set d (.own ag n) (oneCon cn)) (a.put (some d) v) w (fun key=>if key.1 = d then (if key.2 = 0 then val (s,i + 1) else val key) else val key) S:=by
 obtain ⟨nv,hnv⟩:∃ nv:Val,nv = fun key=>if key.1 = d then (if key.2 = 0 then val (s,i + 1) else val key) else val key:=⟨_,rfl⟩
 rw [← hnv]
 have hcon:∀ key cn',((e.drop s i).set d (.own ag n) (oneCon cn)).con key = some cn' → (key = (d,0) ∧ cn' = cn) ∨ (key.1 ≠ d ∧ key ≠ (s,i + 1) ∧ e.con key = some cn'):=fun key cn' hk=>by
  obtain ⟨k1,k2⟩:=key;simp only [Env.set,Env.drop,oneCon] at hk;split at hk
  ·rename_i h1
   split at hk
   ·rename_i h2
    subst h1 h2;cases hk;exact .inl ⟨rfl,rfl⟩
   ·cases hk
  ·rename_i h1
   split at hk
   ·cases hk
   ·rename_i h2; exact .inr ⟨h1,h2,hk⟩
 have hv0:nv (d,0) = val (s,i + 1):=by rw [hnv]; simp
 have hvn:∀ key:bh,key.1 ≠ d → nv key = val key:=fun key hk=>by rw [hnv]; simp only [if_neg hk]
 have hown:∀ b key p,OwnB ((e.drop s i).set d (.own ag n) (oneCon cn)).con nv b key p → (key = (d,0) ∧ OwnB e.con val b (s,i + 1) p) ∨ (key.1 ≠ d ∧ key ≠ (s,i + 1) ∧ OwnB e.con val b key p):=fun b key p ho=>by
  obtain ⟨cn',hcn'⟩:=ho.some
  rcases hcon key cn' hcn' with ⟨rfl,rfl⟩ | ⟨k1,k2,k3⟩
  ·refine .inl ⟨rfl,?_⟩
   rcases ho with ⟨h1,⟨t,xs,h2⟩,h3⟩ | ⟨cn2,t,k,rows,n,cap,h1,h2,h3⟩
   ·rw [hcn'] at h2;rw [hv0] at h3;exact .inl ⟨h1,⟨t,xs,hc.trans h2⟩,h3⟩
   ·rw [hcn'] at h1;rw [hv0] at h3;exact .inr ⟨cn2,t,k,rows,n,cap,hc.trans h1,h2,h3⟩
  ·exact .inr ⟨k1,k2,ho.con (by rw [k3,hcn']) (hvn key k1).symm⟩
 refine ⟨by simp [Act.put,Env.set,Env.drop,h.sz],h.defers,⟨fun key cn' p c h1 h2=>?_,fun key t xs h1=>?_,fun b key p key' p' h1 h2=>?_,fun b hb=>⟨(h.mem.sep b hb).1,fun key p ho=>?_⟩⟩,fun x=>?_,h.frm,fun b key p ho=>?_,fun x hx=>?_,h.sS⟩
 ·rcases hcon key cn' h1 with ⟨rfl,rfl⟩ | ⟨k1,k2,k3⟩
  ·rw [hv0]; exact h.mem.node _ _ _ _ hc h2
  ·rw [hvn key k1]; exact h.mem.node _ _ _ _ k3 h2
 ·rcases hcon key _ h1 with ⟨rfl,h2⟩ | ⟨k1,k2,k3⟩
  ·rw [hv0]; exact h.mem.root _ t xs (by rw [hc,h2])
  ·rw [hvn key k1]; exact h.mem.root _ t xs k3
 ·rcases hown _ _ _ h1 with ⟨rfl,h3⟩ | ⟨k1,k2,h3⟩ <;> rcases hown _ _ _ h2 with ⟨rfl,h4⟩ | ⟨k3,k4,h4⟩
  ·exact ⟨rfl,(h.mem.inj _ _ _ _ _ h3 h4).2⟩
  ·exact absurd (h.mem.inj _ _ _ _ _ h3 h4).1.symm k4
  ·exact absurd (h.mem.inj _ _ _ _ _ h3 h4).1 k2
  ·exact h.mem.inj _ _ _ _ _ h3 h4
 ·rcases hown _ _ _ ho with ⟨rfl,h3⟩ | ⟨k1,k2,h3⟩
  ·exact (h.mem.sep b hb).2 _ _ h3
  ·exact (h.mem.sep b hb).2 _ _ h3
 ·rw [o8 (by rw [h.sz]; exact hd)]
  by_cases hx:x = d
  ·subst hx;rw [if_pos rfl];have e1:((e.drop s i).set x (.own ag n) (oneCon cn)).s x = .own ag n:=by simp [Env.set]
   rw [e1];show TVok _ _ _ _ _ _;rw [hv0];have e2:((e.drop s i).set x (.own ag n) (oneCon cn)).con (x,0) = some cn:=by simp [Env.set,oneCon]
   rw [e2]; exact hv
  ·rw [if_neg hx];have e1:((e.drop s i).set d (.own ag n) (oneCon cn)).s x = e.s x:=by simp [Env.set,Env.drop,hx]
   rw [e1];have hsv:=h.slot x;have hcx:∀ m,(x,m) ≠ (s,i + 1) → ((e.drop s i).set d (.own ag n) (oneCon cn)).con (x,m) = e.con (x,m):=fun m hm=>by simp only [Env.set,Env.drop,if_neg hx,if_neg hm]
   have hvx:∀ m,nv (x,m) = val (x,m):=fun m=>hvn _ hx;have hgen:∀ r,e.gen r ≤ ((e.drop s i).set d (.own ag n) (oneCon cn)).gen r:=fun r=>im (e:=e.drop s i) _ _ _ r
   have hfr:∀ r g p,g ≤ e.gen r → ((e.drop s i).set d (.own ag n) (oneCon cn)).fresh r g p → e.fresh r g p ∧ nv (r,0) p = val (r,0) p:=fun r g p hg hf=>by
    obtain ⟨k1,k2⟩:=e8 (e:=e.drop s i) hg hf;exact ⟨k2,by rw [hvn (r,0) k1]⟩
   cases hav:e.s x with
   | tup ts =>
    rw [hav] at hsv;obtain ⟨vs,g1,g2,g3⟩:=hsv;refine ⟨vs,g1,g2,fun m tv hm=>?_⟩;obtain ⟨u,g4,g5⟩:=g3 m tv hm;refine ⟨u,g4,?_⟩
    by_cases hmm:(x,m + 1) = (s,i + 1)
    ·have hnone:((e.drop s i).set d (.own ag n) (oneCon cn)).con (x,m + 1) = none:=by simp only [Env.set,Env.drop,if_neg hx,if_pos hmm]
     rw [hnone]
     cases tv with
     | own ag' n'=>exact .inl ⟨rfl,_,_,rfl⟩
     | c y=>exact .inr (g5.resolve_left fun hh=>by obtain ⟨-,_,_,hh⟩:=hh; cases hh)
     | agg ys=>exact .inr (g5.resolve_left fun hh=>by obtain ⟨-,_,_,hh⟩:=hh; cases hh)
    ·rw [hcx _ hmm,hvx]; exact g5
   | own ag' n' =>
    rw [hav] at hsv;show TVok _ _ _ _ _ _;rw [hcx 0 (by simp),hvx]; exact hsv
   | box =>
    rw [hav] at hsv;refine ⟨?_,?_⟩
    ·rw [hcx 0 (by simp)]; exact hsv.1
    ·rw [hvx]; exact hsv.2
   | dead=>trivial
   | c y=>rw [hav] at hsv; exact hsv
   | agg ys=>rw [hav] at hsv; exact hsv
   | rp ys=>rw [hav] at hsv; exact hsv
   | fn g css=>rw [hav] at hsv; exact hsv
   | clo g rs=>rw [hav] at hsv; exact CLok.keep hsv hgen fun r1 g' h1 hf=>hfr r1 g' [] h1 hf
   | ref r g p ag' n' =>
    rw [hav] at hsv;obtain ⟨g1,g2⟩:=hsv;refine ⟨Nat.le_trans g1 (hgen r),fun hf=>?_⟩;have g3:=g2 fun i hi=>(hfr r g _ g1 (hf i hi)).1
    cases ag' with
    | false =>
     obtain ⟨rfl,g3⟩:=g3;exact ⟨rfl,by rw [g3]; exact ((hfr r g p g1 (hf 0 (by omega))).2).symm⟩
    | true =>
     obtain ⟨vs,g4,g5,g6⟩:=g3;exact ⟨vs,g4,g5,fun i hi=>by rw [(hfr r g _ g1 (hf i hi)).2]; exact g6 i hi⟩
   | ptr r g p k =>
    rw [hav] at hsv;obtain ⟨g1,g2⟩:=hsv;refine ⟨Nat.le_trans g1 (hgen r),fun hf=>?_⟩;obtain ⟨g3,g4⟩:=hfr r g p.dropLast g1 hf;obtain ⟨p',j,q,b,o,rfl,g5,g6⟩:=g2 g3;refine ⟨p',j,q,b,o,rfl,g5,?_⟩;rw [List.dropLast_concat] at g4
    rcases g6 with ⟨rfl,g6,g8,g7⟩ | ⟨hne,n,cap,g6⟩
    ·exact .inl ⟨rfl,g6,g8,by rw [g4]; exact g7⟩
    ·exact .inr ⟨hne,n,cap,by rw [g4]; exact g6⟩
 ·rcases hown _ _ _ ho with ⟨rfl,h3⟩ | ⟨k1,k2,h3⟩
  ·exact h.low _ _ _ h3
  ·exact h.low _ _ _ h3
 ·have hx:e.n ≤ x:=hx;rw [hvn (x,0) (fun he=>by have he:x = d:=he; omega)];exact h.rts x hx
end
end
end Go.Proofs.YtfknckinfcicbaaGreat

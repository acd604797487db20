/- Parts of the proof. -/
import Derived.Test.YtfknckinfcicbaaGreatChecked
import Derived.Test.YtfknckinfcicbaaGreatCJn7
import Derived.Maps.OwnSet
import Derived.DeepKeys4
set_option linter.unusedSimpArgs false
set_option linter.unusedVariables false
namespace Go.Proofs.YtfknckinfcicbaaGreat
section
open Go.RowKit Go.Maps
def Jc (v:Value):Option (DataW Value × List MemPlace):=some (.held v,[])
def OwnM (w:World) (k:TypeId) (b s:Nat) (f:Value → Option Value):Prop :=
 ∃ D:DataW Value,w.ownsMap Tryz.prog k Jc b s D ∧ size D = s ∧ ∀ key kl,keyOf Tryz.prog k key = some kl → has D kl = (f key).isSome ∧ ∀ z,D.atKey kl z = match f key with | some v=>.held v | none=>z
section
variable {w w':World} {k t e:TypeId} {b s:Nat} {f:Value → Option Value}
theorem OwnM.made (w:World) (k:TypeId):OwnM (w.alloc (.map #[] 0)) k w.heap.size 0 (fun _=>none) :=
 ⟨.map [],World.ownsMap_made _ _ _ _,rfl,fun _ _ _=>⟨rfl,fun _=>rfl⟩⟩
theorem OwnM.lt (h:OwnM w k b s f):b < w.heap.size:=by obtain ⟨D,h,-⟩:=h; exact h.lt
theorem OwnM.below (h:OwnM w k b s f) (hb:Below w.heap.size w w'):OwnM w' k b s f:=by
 have hl:=h.lt;obtain ⟨D,⟨es,clock,h1,h3⟩,h2⟩:=h;exact ⟨D,⟨es,clock,(hb.block b hl).trans h1,h3⟩,h2⟩
theorem OwnM.look_ok (h:OwnM w k b s f) (K:Keyed Tryz.prog k) (ht:Tryz.prog.underlying t = some (.map k e)) {z:Value} (hz:(zeroValue e).run Tryz.prog w = .ok z w) {key:Value} {kl:Lit} (hkey:keyOf Tryz.prog k key = some kl) :
 (Instr.lookup t (.map (some b)) key true).run Tryz.prog w = .ok (.tuple #[(f key).getD z,.bool (f key).isSome]) w:=by
 obtain ⟨D,h1,-,h3⟩:=h;obtain ⟨v,ps,hr,hv⟩:=h1.look_ok K ht hz (rfl:Jc z = some (.held z,[])) hkey;obtain ⟨h4,h5⟩:=h3 key kl hkey;rw [h5] at hv;rw [hr,h4]
 cases hf:f key with
 | none=>rw [hf] at hv; simp [Jc] at hv; rw [hv.1]; rfl
 | some x=>rw [hf] at hv; simp [Jc] at hv; rw [hv.1]; rfl
theorem OwnM.len (h:OwnM w k b s f) (ht:Tryz.prog.underlying t = some (.map k e)) (ty:TypeId):(Builtin.len_ #[t] ty #[.map (some b)]).run Tryz.prog w = .ok (.int .i64 s) w:=by
 obtain ⟨D,h1,h2,-⟩:=h;rw [h1.len ht ty,h2]
theorem OwnM.put (h:OwnM w k b s f) (K:Keyed Tryz.prog k) (ht:Tryz.prog.underlying t = some (.map k e)) (hs:s < maxLen) {key:Value} {kl:Lit} (hkey:keyOf Tryz.prog k key = some kl) (v:Value) :
 ∃ w',(Instr.mapUpdate t (.map (some b)) key v).run Tryz.prog w = .ok () w' ∧ w.grownBy w' (some b) ∧
  ∀ g:Value → Option Value,g key = some v → (∀ key' kl',keyOf Tryz.prog k key' = some kl' → key' ≠ key → g key' = f key') → OwnM w' k b (if (f key).isSome = true then s else s + 1) g:=by
 obtain ⟨D,h1,h2,h3⟩:=h;obtain ⟨w',hr,h4,h5⟩:=h1.update K ht hs hkey (rfl:Jc v = some (.held v,[]));refine ⟨w',hr,h5,fun g hg hg'=>⟨D.put kl (.held v),?_,?_,fun key' kl' hk'=>?_⟩⟩
 ·have hsz:=size_put (h1.tidy K) (DataW.held v:DataW Value) (k:=kl);obtain ⟨es,clock,e1,e2,e3,e4⟩:=h4;refine ⟨es,clock,e1,e2,?_,e4⟩;have e5:size (D.put kl (.held v)) = es.size:=by rw [e4]; simp [Maps.size,length_sorted]
  rw [e5,(h3 key kl hkey).1,h2] at hsz;rw [hsz];exact Nat.le_refl _
 ·rw [size_put (h1.tidy K),(h3 key kl hkey).1,h2]
 ·by_cases e:key' = key
  ·subst e;have hkk:kl' = kl:=by rw [hkey] at hk'; exact (Option.some.inj hk').symm
   subst hkk;rw [hg];exact ⟨has_put_same h1.isMap (K.key hkey) _,fun z=>atKey_put_same h1.isMap (K.key hkey) _ _⟩
  ·have hne:kl' ≠ kl:=fun e2=>e (K.inj (by rw [← e2]; exact hk') hkey);rw [hg' key' kl' hk' e,has_put_other hne];refine ⟨(h3 key' kl' hk').1,fun z=>?_⟩;rw [atKey_put_other hne];exact (h3 key' kl' hk').2 z
end
theorem Fx (w:World) {ops:Array Oper} {rest:List Oper} {o:Oper} {a:Act} {Q:Exit → Act → World → Prop} (hgd:o.guard = none) (m x v:Operand) (t:TypeId) (hop:o.op = Op.mapUpdate t m x v)
 {k e:TypeId} {b s:Nat} {f:Value → Option Value} (K:Keyed Tryz.prog k) (ht:Tryz.prog.underlying t = some (.map k e)) (hm:a.eval m = .map (some b)) (h:OwnM w k b s f) (hs:s < maxLen) (key val:Value) (hx:a.eval x = key) (hv:a.eval v = val) {kl:Lit} (hkey:keyOf Tryz.prog k key = some kl)
 (hK:∀ w',w.grownBy w' (some b) → (∀ g:Value → Option Value,g key = some val → (∀ key' kl',keyOf Tryz.prog k key' = some kl' → key' ≠ key → g key' = f key') → OwnM w' k b (if (f key).isSome = true then s else s + 1) g) → wpList Tryz.prog ops Q rest (a.put o.dst undef) w') :
 wpList Tryz.prog ops Q (o :: rest) a w:=by
 refine wpList_plain hgd fun K' hK'=>?_;obtain ⟨w',hrun,r1,r2⟩:=h.put K ht hs hkey val;unfold Oper.wp;simp [execOp,hop,hm,hx,hv,hrun,Result.andThen];exact hK' _ _ (hK w' r1 r2)
theorem nt (w:World) {ops:Array Oper} {rest:List Oper} {o:Oper} {a:Act} {Q:Exit → Act → World → Prop} (hgd:o.guard = none) (m x:Operand) (t:TypeId) (hop:o.op = Op.lookup t m x true)
 {k e:TypeId} {b s:Nat} {f:Value → Option Value} (K:Keyed Tryz.prog k) (ht:Tryz.prog.underlying t = some (.map k e)) {z:Value} (hz:(zeroValue e).run Tryz.prog w = .ok z w) (hm:a.eval m = .map (some b)) (h:OwnM w k b s f) (key:Value) (hx:a.eval x = key) {kl:Lit} (hkey:keyOf Tryz.prog k key = some kl)
 {r:Value} {ok:Bool} (hr:(f key).getD z = r) (hok:(f key).isSome = ok)
 (hK:wpList Tryz.prog ops Q rest (a.put o.dst (.tuple #[r,.bool ok])) w) :
 wpList Tryz.prog ops Q (o :: rest) a w:=by
 refine wpList_plain hgd fun K' hK'=>?_;have hrun:=h.look_ok K ht hz hkey;rw [hr,hok] at hrun;unfold Oper.wp;simp [execOp,hop,hm,hx,hrun,Result.andThen];exact hK' _ _ hK
theorem jdh {x:Int} (h1:-9223372036854775808 ≤ x) (h2:x ≤ 9223372036854775807):(Lit.int .i64 x).wf = true:=WalkArith.wf_i64 (by omega)
theorem N9 {α β:Type} {f:α → Option β}:∀ {l:List α},(∀ i ∈ l,∃ y,f i = some y) → ∃ ys,l.mapM f = some ys
 | [],_=>⟨[],by simp⟩
 | a :: l,h=>by
  obtain ⟨y,hy⟩:=h a (by simp);obtain ⟨ys,hys⟩:=N9 (l:=l) (fun i hi=>h i (by simp [hi]));exact ⟨y :: ys,by simp [List.mapM_cons,hy,hys]⟩
theorem I6 {P:Program} {m:Nat} {t:TypeId} (ht:P.underlying t = some (.int .i64)) {x:Int} (hx:(Lit.int .i64 x).wf = true):P.keyLits (m + 1) t [.int .i64 x] = some [.int .i64 x]:=by
 simp [Program.keyLits,ht,hx]
theorem Qm {k ie:TypeId} {n:Nat} (hu:Tryz.prog.underlying k = some (.array n ie)) (hi:Tryz.prog.underlying ie = some (.int .i64)) (hc:Tryz.prog.cellsOf k = n) (hci:Tryz.prog.cellsOf ie = 1) (hkt:Tryz.prog.keyType k = true) (hsz:∃ m,Tryz.prog.types.size = m + 1)
 (xs:List Int) (hl:xs.length = n) (hx:∀ x ∈ xs,(Lit.int .i64 x).wf = true):∃ kl,keyOf Tryz.prog k (.agg (xs.map (Value.int .i64)).toArray) = some kl:=by
 obtain ⟨m,hm⟩:=hsz;unfold keyOf;simp only [hu];rw [if_pos (by simp [hkt,Value.formed,hu,hc,hl]),hm];unfold Program.keyLits;simp only [hu,Value.cells,hc,hci,Nat.mul_one];rw [if_pos (by simp [hl])]
 obtain ⟨ys,hys⟩:=N9 (l:=List.range n) (f:=fun i=>Tryz.prog.keyLits (m + 1) ie (((xs.map (Value.int .i64)).drop i).take 1)) (fun i hi'=>by
  have hin:i < xs.length:=by rw [hl]; exact List.mem_range.1 hi'
  refine ⟨[.int .i64 xs[i]],?_⟩
  have e1:((xs.map (Value.int .i64)).drop i).take 1 = [.int .i64 xs[i]]:=by
   rw [List.drop_eq_getElem_cons (by simpa using hin)];simp
  rw [e1]
  exact I6 hi (hx _ (List.getElem_mem hin)))
 rw [hys];exact ⟨_,rfl⟩
end
section
open Go.RowKit
open Classical in
noncomputable def S5 (f:Value → Option Value) (key v:Value):Value → Option Value:=fun x=>if x = key then some v else f x
theorem Nq (f:Value → Option Value) (key v:Value):S5 f key v key = some v:=by unfold S5; rw [if_pos rfl]
theorem In (f:Value → Option Value) {key v x:Value} (h:x ≠ key):S5 f key v x = f x:=by unfold S5; rw [if_neg h]
end
section
open Go.RowKit Go.Maps
def f9 (N:Net) (co:Option (List Int)) (v j q:Nat):Int :=
 if q = 0 then ((gl N.ends v).length:Int) else if q = 1 then gi N.inputs v else match co with
  | none=>0
  | some c=>if (q - 2) / 2 < j then (if q % 2 = 0 then (gp (gl N.ends v) ((q - 2) / 2)).2 else gi c (gp (gl N.ends v) ((q - 2) / 2)).1.toNat) else 0
def l5 (N:Net) (co:Option (List Int)) (v:Nat):List Int:=(List.range 14).map (f9 N co v (gl N.ends v).length)
theorem Ua (N:Net) (co:Option (List Int)) (v:Nat):(l5 N co v).length = 14:=by simp [l5]
theorem Ub {N:Net} {co:Option (List Int)} {u v:Nat}:l5 N co u = l5 N co v ↔ ∀ q,q < 14 → f9 N co u (gl N.ends u).length q = f9 N co v (gl N.ends v).length q:=by
 unfold l5;constructor
 ·intro h q hq;have:=congrArg (fun l=>l[q]?) h;simpa [hq] using this
 ·intro h;refine List.map_congr_left fun q hq=>h q (List.mem_range.1 hq)
theorem yv {N:Net} {co:Option (List Int)} {u v:Nat} (hu:(gl N.ends u).length ≤ 6) (hv:(gl N.ends v).length ≤ 6):l5 N co u = l5 N co v ↔ en N co u = en N co v:=by
 rw [Ub]
 cases co with
 | none =>
  rw [lf];constructor
  ·intro h;have h0:=h 0 (by omega);have h1:=h 1 (by omega);simp [f9] at h0 h1;exact ⟨by omega,h1⟩
  ·rintro ⟨h0,h1⟩ q _;simp [f9,h0,h1]
 | some c =>
  rw [fk];constructor
  ·intro h;have h0:=h 0 (by omega);have h1:=h 1 (by omega);simp [f9] at h0 h1;refine ⟨by omega,h1,fun i hi=>?_⟩;have a:=h (2 + 2 * i) (by omega);have b:=h (3 + 2 * i) (by omega);have e1:(2 + 2 * i - 2) / 2 = i:=by omega
   have e2:(3 + 2 * i - 2) / 2 = i:=by omega
   have e3:(2 + 2 * i) % 2 = 0:=by omega
   have e4:¬ (3 + 2 * i) % 2 = 0:=by omega
   have n1:¬ 2 + 2 * i = 0:=by omega
   have n2:¬ 2 + 2 * i = 1:=by omega
   have n3:¬ 3 + 2 * i = 0:=by omega
   have n4:¬ 3 + 2 * i = 1:=by omega
   have hi2:i < (gl N.ends v).length:=by omega
   simp only [f9,e1,e2,if_pos e3,if_neg e4,if_neg n1,if_neg n2,if_neg n3,if_neg n4,if_pos hi,if_pos hi2] at a b;exact ⟨a,b⟩
  ·rintro ⟨h0,h1,h2⟩ q hq;unfold f9
   by_cases q0:q = 0
   ·rw [if_pos q0,if_pos q0,h0]
   ·by_cases q1:q = 1
    ·rw [if_neg q0,if_neg q0,if_pos q1,if_pos q1,h1]
    ·rw [if_neg q0,if_neg q0,if_neg q1,if_neg q1];simp only
     by_cases hj:(q - 2) / 2 < (gl N.ends u).length
     ·have hj2:(q - 2) / 2 < (gl N.ends v).length:=by omega
      rw [if_pos hj,if_pos hj2,(h2 _ hj).1,(h2 _ hj).2]
     ·have hj2:¬ (q - 2) / 2 < (gl N.ends v).length:=by omega
      rw [if_neg hj,if_neg hj2]
theorem Qn {N:Net} {c:List Int} {v j:Nat}:∀ q,q < 14 → (if q = 2 * j + 3 then gi c (gp (gl N.ends v) j).1.toNat else if q = 2 * j + 2 then (gp (gl N.ends v) j).2 else f9 N (some c) v j q) = f9 N (some c) v (j + 1) q:=fun q hq=>by
 unfold f9
 by_cases a:q = 2 * j + 3
 ·subst a;have e1:(2 * j + 3 - 2) / 2 = j:=by omega
  have n0:¬ 2 * j + 3 = 0:=by omega
  have n1:¬ 2 * j + 3 = 1:=by omega
  have n2:¬ (2 * j + 3) % 2 = 0:=by omega
  simp only [e1,if_neg n0,if_neg n1,if_neg n2,if_pos (Nat.lt_succ_self j),if_true]
 ·by_cases b:q = 2 * j + 2
  ·subst b;have e1:(2 * j + 2 - 2) / 2 = j:=by omega
   have n0:¬ 2 * j + 2 = 0:=by omega
   have n1:¬ 2 * j + 2 = 1:=by omega
   have n2:(2 * j + 2) % 2 = 0:=by omega
   simp only [e1,if_neg a,if_neg n0,if_neg n1,if_pos n2,if_pos (Nat.lt_succ_self j),if_true]
  ·rw [if_neg a,if_neg b]
   by_cases q0:q = 0
   ·rw [if_pos q0,if_pos q0]
   ·by_cases q1:q = 1
    ·rw [if_neg q0,if_neg q0,if_pos q1,if_pos q1]
    ·rw [if_neg q0,if_neg q0,if_neg q1,if_neg q1];simp only
     by_cases h:(q - 2) / 2 < j
     ·have h2:(q - 2) / 2 < j + 1:=by omega
      rw [if_pos h,if_pos h2]
     ·have h2:¬ (q - 2) / 2 < j + 1:=by omega
      rw [if_neg h,if_neg h2]
theorem Qo (N:Net) (co:Option (List Int)) (v:Nat):∀ i,i < 14 → (#[.int .i64 ((gl N.ends v).length:Nat),.int .i64 (gi N.inputs v),.int .i64 0,.int .i64 0,.int .i64 0,.int .i64 0,.int .i64 0,.int .i64 0,.int .i64 0,.int .i64 0,.int .i64 0,.int .i64 0,.int .i64 0,.int .i64 0]:Array Value)[i]? = some (.int .i64 (f9 N co v 0 i)):=fun i hi=>by
 have e:∀ q,f9 N co v 0 q = if q = 0 then ((gl N.ends v).length:Int) else if q = 1 then gi N.inputs v else 0:=fun q=>by
  unfold f9;cases co <;> simp
 rw [e]
 rcases (by omega:i = 0 ∨ i = 1 ∨ i = 2 ∨ i = 3 ∨ i = 4 ∨ i = 5 ∨ i = 6 ∨ i = 7 ∨ i = 8 ∨ i = 9 ∨ i = 10 ∨ i = 11 ∨ i = 12 ∨ i = 13) with rfl | rfl | rfl | rfl | rfl | rfl | rfl | rfl | rfl | rfl | rfl | rfl | rfl | rfl <;> rfl
def ow (xs:List Int):Value:=.agg (xs.map (Value.int .i64)).toArray
theorem zq:∀ {xs ys:List Int},xs.map (Value.int .i64) = ys.map (Value.int .i64) → xs = ys
 | [],[],_=>rfl
 | [],_ :: _,h=>by simp at h
 | _ :: _,[],h=>by simp at h
 | x :: xs,y :: ys,h=>by
  simp only [List.map_cons,List.cons.injEq,Value.int.injEq,true_and] at h;rw [h.1,zq h.2]
theorem J5 {xs ys:List Int} (h:ow xs = ow ys):xs = ys:=by
 unfold ow at h;simp only [Value.agg.injEq] at h;exact zq (by simpa using h)
theorem jbe (f:Nat → Int):ow ((List.range 14).map f) = .agg #[.int .i64 (f 0),.int .i64 (f 1),.int .i64 (f 2),.int .i64 (f 3),.int .i64 (f 4),.int .i64 (f 5),.int .i64 (f 6),.int .i64 (f 7),.int .i64 (f 8),.int .i64 (f 9),.int .i64 (f 10),.int .i64 (f 11),.int .i64 (f 12),.int .i64 (f 13)]:=by
 simp [ow,List.range,List.range.loop]
theorem Wm {w:World} {b:Nat} {t:TypeId} {f:Nat → Value} (h:w.rowIs b t 14 f):Blk w b t #[f 0,f 1,f 2,f 3,f 4,f 5,f 6,f 7,f 8,f 9,f 10,f 11,f 12,f 13]:=by
 obtain ⟨c,hb,hn,hc⟩:=h
 have e:c = #[f 0,f 1,f 2,f 3,f 4,f 5,f 6,f 7,f 8,f 9,f 10,f 11,f 12,f 13]:=by
  apply Array.ext_getElem?;intro i
  by_cases hi:i < 14
  ·rw [hc i hi]
   rcases (by omega:i = 0 ∨ i = 1 ∨ i = 2 ∨ i = 3 ∨ i = 4 ∨ i = 5 ∨ i = 6 ∨ i = 7 ∨ i = 8 ∨ i = 9 ∨ i = 10 ∨ i = 11 ∨ i = 12 ∨ i = 13) with rfl | rfl | rfl | rfl | rfl | rfl | rfl | rfl | rfl | rfl | rfl | rfl | rfl | rfl <;> rfl
  ·rw [Array.getElem?_eq_none (by omega),Array.getElem?_eq_none (by simp; omega)]
 unfold Blk;rw [hb,e]
theorem Uk {c:List Int} {b:Int} (hb:0 ≤ b) (h:∀ x ∈ c,0 ≤ x ∧ x ≤ b) (k:Nat):0 ≤ gi c k ∧ gi c k ≤ b:=by
 by_cases hk:k < c.length
 ·rw [bt hk]; exact h _ (List.getElem_mem hk)
 ·have:gi c k = 0:=by simp [gi,Nat.le_of_not_lt hk]
  rw [this]; omega
theorem Xb {N:Net} {co:Option (List Int)} {v:Nat} (hl:(gl N.ends v).length ≤ 6) (hi:0 ≤ gi N.inputs v ∧ gi N.inputs v ≤ 9) (hp:∀ i,i < (gl N.ends v).length → 0 ≤ (gp (gl N.ends v) i).2 ∧ (gp (gl N.ends v) i).2 ≤ 5) (hc:∀ c,co = some c → ∀ x ∈ c,0 ≤ x ∧ x ≤ 1048576) :
 ∀ x ∈ l5 N co v,(Lit.int .i64 x).wf = true:=fun x hx=>by
 obtain ⟨q,-,rfl⟩:=List.mem_map.1 hx
 have key:0 ≤ f9 N co v (gl N.ends v).length q ∧ f9 N co v (gl N.ends v).length q ≤ 1048576:=by
  unfold f9
  by_cases q0:q = 0
  ·rw [if_pos q0]; omega
  ·by_cases q1:q = 1
   ·rw [if_neg q0,if_pos q1]; omega
   ·rw [if_neg q0,if_neg q1]
    cases co with
    | none=>simp
    | some c =>
     simp only
     by_cases hj:(q - 2) / 2 < (gl N.ends v).length
     ·rw [if_pos hj]
      by_cases h2:q % 2 = 0
      ·rw [if_pos h2]; have:=hp _ hj; omega
      ·rw [if_neg h2]; exact Uk (by omega) (hc c rfl) _
     ·rw [if_neg hj]; omega
 exact jdh (by omega) (by omega)
theorem yu:Keyed Tryz.prog 132:=Keyed.of_law (deep_law_laid (by kernel_rfl) (m:=2) (by omega) (of_decide_eq_true (by kernel_rfl)) (by kernel_rfl) (by rw [Tryz.underlying132]))
theorem P0 {n:Nat} (h:0 < n):∃ m,n = m + 1:=⟨n - 1,by omega⟩
theorem Lq {xs:List Int} (hl:xs.length = 14) (hx:∀ x ∈ xs,(Lit.int .i64 x).wf = true):∃ kl,keyOf Tryz.prog 132 (ow xs) = some kl :=
 Qm Tryz.underlying132 Tryz.underlying3 (by kernel_rfl) (by kernel_rfl) (by kernel_rfl) (P0 (of_decide_eq_true (by kernel_rfl))) xs hl hx
theorem vz:Tryz.prog.underlying 130 = some (.map 132 3):=Tryz.underlying130
theorem D9 (w:World):(zeroValue 3).run Tryz.prog w = .ok (.int .i64 0) w:=by kernel_rfl
theorem OwnM.keepB {w w':World} {k:TypeId} {b s:Nat} {f:Value → Option Value} (h:OwnM w k b s f) (hb:w'.heap[b]? = w.heap[b]?):OwnM w' k b s f:=by
 obtain ⟨D,⟨es,clock,h1,h3⟩,h2⟩:=h;exact ⟨D,⟨es,clock,hb.trans h1,h3⟩,h2⟩
structure VM (N:Net) (co:Option (List Int)) (mb v:Nat) (f:Value → Option Value) (W:World):Prop where
 mp:OwnM W 132 mb (cnB (en N co) v) f
 yes:∀ x u,x < N.ends.length → u < v → en N co u = en N co x → f (ow (l5 N co x)) = some (.int .i64 (nm (en N co) x))
 no:∀ x,x < N.ends.length → (∀ u,u < v → en N co u ≠ en N co x) → f (ow (l5 N co x)) = none
section
variable {N:Net} {co:Option (List Int)} {mb v:Nat} {f:Value → Option Value} {W W':World}
theorem VM.keepB (h:VM N co mb v f W) (hb:W'.heap[mb]? = W.heap[mb]?):VM N co mb v f W':=⟨h.mp.keepB hb,h.yes,h.no⟩
theorem VM.old (h:VM N co mb v f W) (hn:jd (en N co) v = false) (hv:v < N.ends.length):f (ow (l5 N co v)) = some (.int .i64 (nm (en N co) v)) ∧ VM N co mb (v + 1) f W:=by
 obtain ⟨u,hu,e⟩:=Gg hn;refine ⟨h.yes v u hv hu e,by rw [dz,if_neg (by rw [hn]; simp)]; exact h.mp,fun x u' hx hu' e'=>?_,fun x hx hno=>h.no x hx fun u' hu'=>hno u' (by omega)⟩
 by_cases h2:u' = v
 ·subst h2;exact h.yes x u hx hu (e.trans e')
 ·exact h.yes x u' hx (by omega) e'
theorem VM.new (h:VM N co mb v f W) (hd:∀ x,x < N.ends.length → (gl N.ends x).length ≤ 6) (hn:jd (en N co) v = true) (hv:v < N.ends.length) :
 f (ow (l5 N co v)) = none ∧ ∀ (W':World) (g:Value → Option Value),OwnM W' 132 mb (cnB (en N co) v + 1) g → g (ow (l5 N co v)) = some (.int .i64 (cnB (en N co) v:Nat)) → (∀ x,x < N.ends.length → ow (l5 N co x) ≠ ow (l5 N co v) → g (ow (l5 N co x)) = f (ow (l5 N co x))) → VM N co mb (v + 1) g W':=by
 refine ⟨h.no v hv (gm.1 hn),fun W' g h1 h2 h3=>⟨by rw [dz,if_pos hn]; exact h1,fun x u hx hu e=>?_,fun x hx hno=>?_⟩⟩
 ·by_cases e2:en N co v = en N co x
  ·have e3:=(yv (co:=co) (hd v hv) (hd x hx)).2 e2;rw [← e3,h2,← yl hn,Iy e2]
  ·have hne:ow (l5 N co x) ≠ ow (l5 N co v):=fun e4=>e2 ((yv (hd v hv) (hd x hx)).1 (J5 e4).symm);rw [h3 x hx hne]
   exact h.yes x u hx (by
    rcases Nat.lt_or_ge u v with h5 | h5
    ·exact h5
    ·obtain rfl:u = v:=by omega
     exact absurd e e2) e
 ·have e2:=hno v (by omega);have hne:ow (l5 N co x) ≠ ow (l5 N co v):=fun e4=>e2 ((yv (hd v hv) (hd x hx)).1 (J5 e4).symm);rw [h3 x hx hne];exact h.no x hx fun u hu=>hno u (by omega)
end
end
end Go.Proofs.YtfknckinfcicbaaGreat

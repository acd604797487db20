/- Parts of the proof. -/
import Derived.Test.YtfknckinfcicbaaGreatCJn41
import Derived.Test.YtfknckinfcicbaaGreatCJn42
import Derived.Test.YtfknckinfcicbaaGreatCJn39
import Derived.Test.YtfknckinfcicbaaGreatCJn9
import Derived.Test.YtfknckinfcicbaaGreatCJn26
import Derived.Test.YtfknckinfcicbaaGreatCJn21
import Derived.Test.YtfknckinfcicbaaGreatCJn31
import Derived.Test.YtfknckinfcicbaaGreatCDcu
import Derived.Test.YtfknckinfcicbaaGreatCJn7
import Derived.Test.YtfknckinfcicbaaGreatCJn33
set_option linter.unusedSimpArgs false
set_option linter.unusedVariables false
namespace Go.Proofs.YtfknckinfcicbaaGreat
section
def X9 (A B:Net) (w:Nat) (X:List Int):Prop:=(pmB A B X = true ∧ gi X 0 = w) ∨ (X = [] ∧ ∀ m,pmB A B m = true → gi m 0 ≠ w)
structure ExM (A B:Net) (w:Nat) (L m:List Int):Prop where
 len:m.length = A.ends.length
 rng:∀ x,x < A.ends.length → gi m x = -1 ∨ 0 ≤ gi m x ∧ gi m x < B.ends.length
 mem:∀ x:Nat,x < A.ends.length → (0 ≤ gi m x ↔ (x:Int) ∈ L)
 uni:∀ c,pmB A B c = true → gi c 0 = w → ∀ x,x < A.ends.length → 0 ≤ gi m x → gi m x = gi c x
section
variable {A B:Net} {w:Nat}
theorem ExM.start (hn:0 < A.ends.length) (hw:w < B.ends.length):ExM A B w [0] ((List.replicate A.ends.length (-1:Int)).set 0 (w:Int)):=by
 have hl:(List.replicate A.ends.length (-1:Int)).length = A.ends.length:=List.length_replicate
 have hg:∀ x,x < A.ends.length → gi ((List.replicate A.ends.length (-1:Int)).set 0 (w:Int)) x = if x = 0 then (w:Int) else -1:=fun x hx=>by
  rw [gy]
  by_cases h:x = 0
  ·rw [if_pos ⟨h,by omega⟩,if_pos h]
  ·rw [if_neg (fun hh=>h hh.1),if_neg h,bt (by omega)];simp
 refine ⟨by rw [List.length_set,hl],fun x hx=>?_,fun x hx=>?_,fun c hc h0 x hx h=>?_⟩
 ·rw [hg x hx];split
  ·exact .inr (by omega)
  ·exact .inl rfl
 ·rw [hg x hx,List.mem_singleton];split
  ·rename_i h; subst h; simp
  ·rename_i h
   constructor
   ·intro h2; omega
   ·intro h2; omega
 ·rw [hg x hx] at h ⊢;split at h
  ·rename_i h2
   rw [if_pos h2,h2,h0]
  ·omega
theorem ExM.step {L m:List Int} (h:ExM A B w L m) (hsA:Sym A.ends) (hsB:Sym B.ends) {v u i:Nat} (hv:v < A.ends.length) (hu:gi m v = (u:Int)) (hd:(gl A.ends v).length = (gl B.ends u).length) (hi:i < (gl A.ends v).length) (hno:gi m (nd A v i) < 0) :
 ExM A B w (L ++ [((nd A v i:Nat):Int)]) (m.set (nd A v i) (gp (gl B.ends u) i).1):=by
 obtain ⟨q1,-,-,-,q5⟩:=d9 hsA hv hi
 have hul:u < B.ends.length:=by
  rcases h.rng v hv with h1 | h1 <;> omega
 obtain ⟨r1,-,-,-,r5⟩:=d9 hsB hul (show i < (gl B.ends u).length by omega);have hl:=h.len
 have hg:∀ x,gi (m.set (nd A v i) (gp (gl B.ends u) i).1) x = if x = nd A v i then (gp (gl B.ends u) i).1 else gi m x:=fun x=>by
  rw [gy]
  by_cases hx:x = nd A v i
  ·rw [if_pos ⟨hx,by omega⟩,if_pos hx]
  ·rw [if_neg (fun hh=>hx hh.1),if_neg hx]
 have hb:(gp (gl B.ends u) i).1 = ((nd B u i:Nat):Int):=by rw [r5]
 refine ⟨by rw [List.length_set,hl],fun x hx=>?_,fun x hx=>?_,fun c hc h0 x hx h2=>?_⟩
 ·rw [hg x,hb];split
  ·exact .inr (by omega)
  ·exact h.rng x hx
 ·rw [hg x,hb,List.mem_append,List.mem_singleton];split
  ·rename_i h3; subst h3
   exact ⟨fun _=>.inr rfl,fun _=>by omega⟩
  ·rename_i h3
   rw [h.mem x hx];exact ⟨.inl,fun h4=>h4.elim id fun h5=>absurd (Int.ofNat.inj h5) h3⟩
 ·rw [hg x] at h2 ⊢
  by_cases h3:x = nd A v i
  ·rw [if_pos h3,h3];have h4:=h.uni c hc h0 v hv (by omega);obtain ⟨-,-,c3⟩:=gw.1 hc;obtain ⟨-,-,p3⟩:=o9.1 (c3 v hv);have h5:=p3 i hi;rw [← h4,hu,Int.toNat_natCast,q5] at h5;rw [h5]; rfl
  ·rw [if_neg h3] at h2 ⊢;exact h.uni c hc h0 x hx h2
theorem ExM.none {L m X:List Int} (h:ExM A B w L m) (hX:X9 A B w X) {v u:Nat} (hv:v < A.ends.length) (hu:gi m v = (u:Int)) (hd:(gl A.ends v).length ≠ (gl B.ends u).length):X = []:=by
 rcases hX with ⟨h1,h2⟩ | ⟨h1,-⟩
 ·have h4:=h.uni X h1 h2 v hv (by omega);obtain ⟨-,-,c3⟩:=gw.1 h1;obtain ⟨p1,-,-⟩:=o9.1 (c3 v hv);rw [← h4,hu,Int.toNat_natCast] at p1;exact absurd p1 hd
 ·exact h1
theorem ExM.done {L m X:List Int} (h:ExM A B w L m) (hX:X9 A B w X) (h0:gi m 0 = w) (hall:∀ x:Nat,x < A.ends.length → (x:Int) ∈ L):(pmB A B m = true → X = m) ∧ (pmB A B m = false → X = []):=by
 have key:∀ c,pmB A B c = true → gi c 0 = w → c = m:=fun c hc hc0=>by
  obtain ⟨c1,-,-⟩:=gw.1 hc;refine lj (by rw [c1,h.len]) fun i hi=>?_;rw [c1] at hi;exact (h.uni c hc hc0 i hi ((h.mem i hi).2 (hall i hi))).symm
 refine ⟨fun hp=>?_,fun hp=>?_⟩
 ·rcases hX with ⟨h1,h2⟩ | ⟨-,h2⟩
  ·exact key X h1 h2
  ·exact absurd h0 (h2 m hp)
 ·rcases hX with ⟨h1,h2⟩ | ⟨h1,-⟩
  ·rw [key X h1 h2,hp] at h1;cases h1
  ·exact h1
end
end
section
open Go Go.RowKit
def clE (N:Net) (cls:List Int) (u:Nat):List (Int × Int):=(gl N.ends u).map fun e=>(gi cls e.1.toNat,e.2)
def cqE (N:Net) (cls:List Int) (m:Nat):Nat → List (List (Int × Int))
 | 0=>List.replicate m []
 | j + 1=>(cqE N cls m j).set (gi cls (N.ends.length - 1 - j)).toNat (clE N cls (N.ends.length - 1 - j))
def cqI (N:Net) (cls:List Int) (m:Nat):Nat → List Int
 | 0=>List.replicate m 0
 | j + 1=>(cqI N cls m j).set (gi cls (N.ends.length - 1 - j)).toNat (gi N.inputs (N.ends.length - 1 - j))
section
variable {N:Net} {cls:List Int} {m:Nat}
theorem pu:∀ j,(cqE N cls m j).length = m
 | 0=>List.length_replicate
 | j + 1=>by rw [cqE,List.length_set,pu j]
theorem sw:∀ j,(cqI N cls m j).length = m
 | 0=>List.length_replicate
 | j + 1=>by rw [cqI,List.length_set,sw j]
theorem om (E:List (List (Int × Int))) (x c:Nat) (r:List (Int × Int)):gl (E.set x r) c = if c = x ∧ x < E.length then r else gl E c:=by
 unfold gl;rw [List.getD_eq_getElem?_getD,List.getD_eq_getElem?_getD,List.getElem?_set]
 by_cases h:x = c
 ·subst h
  by_cases h2:x < E.length
  ·rw [if_pos rfl,if_pos h2,if_pos ⟨rfl,h2⟩]; rfl
  ·rw [if_pos rfl,if_neg h2,if_neg (fun hh=>h2 hh.2),List.getElem?_eq_none (by omega)]
 ·rw [if_neg h,if_neg (fun hh=>h hh.1.symm)]
theorem Fo (hc:∀ v,v < N.ends.length → 0 ≤ gi cls v ∧ gi cls v < m):∀ j,j ≤ N.ends.length → ∀ c u:Nat,c < m → N.ends.length - j ≤ u → u < N.ends.length → gi cls u = c → (∀ x,N.ends.length - j ≤ x → x < u → gi cls x ≠ c) →
 gl (cqE N cls m j) c = clE N cls u ∧ gi (cqI N cls m j) c = gi N.inputs u
 | 0,_,c,u,_,h1,h2,_,_=>by omega
 | j + 1,hj,c,u,hcm,h1,h2,h3,h4=>by
  have hx:N.ends.length - 1 - j < N.ends.length:=by omega
  have hr:=hc _ hx;have hl1:=pu (N:=N) (cls:=cls) (m:=m) j;have hl2:=sw (N:=N) (cls:=cls) (m:=m) j;rw [cqE,cqI,om,gy]
  by_cases h5:gi cls (N.ends.length - 1 - j) = (c:Int)
  ·have h6:u = N.ends.length - 1 - j:=by
    rcases Nat.lt_or_ge (N.ends.length - 1 - j) u with h | h
    ·exact absurd h5 (h4 _ (by omega) h)
    ·omega
   rw [if_pos ⟨by omega,by omega⟩,if_pos ⟨by omega,by omega⟩,h6];exact ⟨rfl,rfl⟩
  ·rw [if_neg (fun hh=>h5 (by omega)),if_neg (fun hh=>h5 (by omega))];have h6:u ≠ N.ends.length - 1 - j:=fun h=>h5 (by rw [← h]; exact h3);exact Fo hc j (by omega) c u hcm (by omega) h2 h3 fun x hx1 hx2=>h4 x (by omega) hx2
theorem Jn {p:Nat → Prop}:∀ n,(∃ u,u < n ∧ p u) → ∃ u,u < n ∧ p u ∧ ∀ x,x < u → ¬ p x
 | 0,h=>by obtain ⟨u,hu,-⟩:=h; omega
 | n + 1,h=>by
  by_cases h2:∃ u,u < n ∧ p u
  ·obtain ⟨u,h3,h4,h5⟩:=Jn n h2;exact ⟨u,by omega,h4,h5⟩
  ·obtain ⟨u,hu,hp⟩:=h
   have:u = n:=by
    rcases Nat.lt_or_ge u n with h3 | h3
    ·exact absurd ⟨u,h3,hp⟩ h2
    ·omega
   subst this;exact ⟨u,by omega,hp,fun x hx hpx=>h2 ⟨x,hx,hpx⟩⟩
theorem Pk {n c u:Nat} (hu:u < n) (h:gi cls u = (c:Int)) (hl:∀ x,x < u → gi cls x ≠ (c:Int)):rpF cls n c = u:=by
 have h0:∀ k,k ≤ u → fbL cls k c = []:=by
  intro k
  induction k with
  | zero=>intro _; rfl
  | succ k ih =>
   intro hk;rw [xc,if_neg (hl k (by omega))];exact ih (by omega)
 have h1:fbL cls (u + 1) c = [(u:Int)]:=by rw [xc,if_pos h,h0 u (Nat.le_refl u)]; rfl
 have h2:∀ k,∃ M,fbL cls (u + 1 + k) c = (u:Int) :: M:=by
  intro k
  induction k with
  | zero=>exact ⟨[],h1⟩
  | succ k ih =>
   obtain ⟨M,hM⟩:=ih;rw [show u + 1 + (k + 1) = u + 1 + k + 1 by omega,xc];split
   ·exact ⟨M ++ [((u + 1 + k:Nat):Int)],by rw [hM]; rfl⟩
   ·exact ⟨M,hM⟩
 obtain ⟨M,hM⟩:=h2 (n - (u + 1));rw [show u + 1 + (n - (u + 1)) = n by omega] at hM;unfold rpF;rw [hM];show ((u:Int)).toNat = u;exact Int.toNat_natCast u
theorem U3 (hc:∀ v,v < N.ends.length → 0 ≤ gi cls v ∧ gi cls v < m) (hex:∀ c:Nat,c < m → ∃ u,u < N.ends.length ∧ gi cls u = (c:Int)):cqE N cls m N.ends.length = (quN N cls m).ends ∧ cqI N cls m N.ends.length = (quN N cls m).inputs:=by
 have key:∀ c,c < m → gl (cqE N cls m N.ends.length) c = qsE N cls c ∧ gi (cqI N cls m N.ends.length) c = gi N.inputs (rpF cls N.ends.length c):=fun c hcm=>by
  obtain ⟨u,h1,h2,h3⟩:=Jn (p:=fun u=>gi cls u = (c:Int)) _ (hex c hcm);have h4:=Fo hc N.ends.length (Nat.le_refl _) c u hcm (by omega) h1 h2 fun x _ hx=>h3 x hx;have h5:=Pk (cls:=cls) h1 h2 h3;unfold qsE;rw [h5];exact h4
 constructor
 ·apply List.ext_getElem
  ·rw [pu,gv]
  ·intro i h1 h2;rw [pu] at h1;have h3:=(key i h1).1;have h4:=qz (N:=N) (cls:=cls) h1;unfold gl at h3 h4;rw [List.getD_eq_getElem?_getD,List.getElem?_eq_getElem (by rw [pu]; exact h1)] at h3;rw [List.getD_eq_getElem?_getD,List.getElem?_eq_getElem (by rw [gv]; exact h1)] at h4;exact (show _ = _ from h3).trans (show _ = _ from h4).symm
 ·refine lj (by rw [sw]; simp [quN]) fun i hi=>?_;rw [sw] at hi;rw [(key i hi).2,Gb hi]
end
end
section
open Go Go.RowKit
def wr1 (E:List (List (Int × Int))) (p i:Nat) (e:Int × Int):List (List (Int × Int)):=E.set p ((gl E p).set i e)
theorem Ao (E:List (List (Int × Int))) (p i:Nat) (e:Int × Int):(wr1 E p i e).length = E.length:=by rw [wr1,List.length_set]
theorem An (E:List (List (Int × Int))) (p i:Nat) (e:Int × Int) (q:Nat):(gl (wr1 E p i e) q).length = (gl E q).length:=by
 rw [wr1,om];split
 ·rename_i h
  rw [List.length_set,h.1]
 ·rfl
theorem Rz {E:List (List (Int × Int))} {p i:Nat} (hp:p < E.length) (hi:i < (gl E p).length) (e:Int × Int) (q j:Nat):gp (gl (wr1 E p i e) q) j = if q = p ∧ j = i then e else gp (gl E q) j:=by
 rw [wr1,om]
 by_cases hq:q = p
 ·subst hq;rw [if_pos ⟨rfl,hp⟩];unfold gp;rw [List.getD_eq_getElem?_getD,List.getD_eq_getElem?_getD,List.getElem?_set]
  by_cases hj:i = j
  ·subst hj;rw [if_pos rfl,if_pos hi,if_pos ⟨rfl,rfl⟩]; rfl
  ·rw [if_neg hj,if_neg (fun hh=>hj hh.2.symm)]
 ·rw [if_neg (fun hh=>hq hh.1),if_neg (fun hh=>hq hh.1)]
theorem i6 {k a b s t:Nat} (hs:s < k) (ht:t < k) (h:a * k + s = b * k + t):a = b ∧ s = t:=by
 rcases Nat.lt_trichotomy a b with h1 | h1 | h1
 ·have:=Nat.mul_le_mul_right k (show a + 1 ≤ b by omega);rw [Nat.add_mul,Nat.one_mul] at this;omega
 ·subst h1; exact ⟨rfl,by omega⟩
 ·have:=Nat.mul_le_mul_right k (show b + 1 ≤ a by omega);rw [Nat.add_mul,Nat.one_mul] at this;omega
theorem qv {k a n s:Nat} (hs:s < k) (ha:a < n):a * k + s < n * k:=by
 have:=Nat.mul_le_mul_right k (show a + 1 ≤ n by omega);rw [Nat.add_mul,Nat.one_mul] at this;omega
def eA (N:Net) (x:Nat):Nat:=(gq (edL N N.ends.length) x).1.toNat
def eI (N:Net) (x:Nat):Nat:=(gq (edL N N.ends.length) x).2.1.toNat
def eB (N:Net) (x:Nat):Nat:=(gq (edL N N.ends.length) x).2.2.1.toNat
def eJ (N:Net) (x:Nat):Nat:=(gq (edL N N.ends.length) x).2.2.2.toNat
def lfS (N:Net) (k:Nat) (P:Nat → Nat → Nat) (E:List (List (Int × Int))) (x:Nat):Nat → List (List (Int × Int))
 | 0=>E
 | s + 1=>wr1 (wr1 (lfS N k P E x s) (eA N x * k + s) (eI N x) (((eB N x * k + P x s:Nat):Int),(eJ N x:Int))) (eB N x * k + P x s) (eJ N x) (((eA N x * k + s:Nat):Int),(eI N x:Int))
def lf0 (N:Net) (k:Nat):List (List (Int × Int)):=(List.range (N.ends.length * k)).map fun y=>List.replicate (gl N.ends (y / k)).length (0,0)
def lfE (N:Net) (k:Nat) (P:Nat → Nat → Nat):Nat → List (List (Int × Int))
 | 0=>lf0 N k
 | x + 1=>lfS N k P (lfE N k P x) x k
section
variable {N:Net} {k:Nat} {P:Nat → Nat → Nat}
theorem Aw (E:List (List (Int × Int))) (x:Nat):∀ s,(lfS N k P E x s).length = E.length
 | 0=>rfl
 | s + 1=>by rw [lfS,Ao,Ao,Aw E x s]
theorem wy (E:List (List (Int × Int))) (x q:Nat):∀ s,(gl (lfS N k P E x s) q).length = (gl E q).length
 | 0=>rfl
 | s + 1=>by rw [lfS,An,An,wy E x q s]
theorem W8:(lf0 N k).length = N.ends.length * k:=by simp [lf0]
theorem W7 {v s:Nat} (hv:v < N.ends.length) (hs:s < k):(gl (lf0 N k) (v * k + s)).length = (gl N.ends v).length:=by
 have h1:=qv hs hv
 have h2:(v * k + s) / k = v:=by
  rw [Nat.mul_comm,Nat.mul_add_div (by omega),Nat.div_eq_of_lt hs,Nat.add_zero]
 unfold lf0 gl;rw [List.getD_eq_getElem?_getD,List.getElem?_map,List.getElem?_range h1];show (List.replicate _ _).length = _;rw [List.length_replicate,h2]
theorem mq:∀ x,(lfE N k P x).length = N.ends.length * k
 | 0=>W8
 | x + 1=>by rw [lfE,Aw,mq x]
theorem ph {v s:Nat} (hv:v < N.ends.length) (hs:s < k):∀ x,(gl (lfE N k P x) (v * k + s)).length = (gl N.ends v).length
 | 0=>W7 hv hs
 | x + 1=>by rw [lfE,wy,ph hv hs x]
theorem e9 (hs:Sym N.ends) {x:Nat} (hx:x < (edL N N.ends.length).length):eA N x < N.ends.length ∧ eI N x < (gl N.ends (eA N x)).length ∧ eB N x < N.ends.length ∧ eJ N x < (gl N.ends (eB N x)).length ∧
 gp (gl N.ends (eA N x)) (eI N x) = ((eB N x:Int),(eJ N x:Int)) ∧ gp (gl N.ends (eB N x)) (eJ N x) = ((eA N x:Int),(eI N x:Int)) ∧ edP N (eA N x) (eI N x) = true ∧
 gq (edL N N.ends.length) x = ((eA N x:Int),(eI N x:Int),(eB N x:Int),(eJ N x:Int)):=by
 have hm:gq (edL N N.ends.length) x ∈ edL N N.ends.length:=by rw [Ct hx]; exact List.getElem_mem hx
 obtain ⟨v,j,hv,hj,hp,he⟩:=G3 hm;obtain ⟨b,i,e1,hb,hi,e2⟩:=hs v j hv hj;have e1':gp (gl N.ends v) j = ((b:Int),(i:Int)):=e1;have e2':gp (gl N.ends b) i = ((v:Int),(j:Int)):=e2;rw [e1'] at he;have h1:eA N x = v:=by unfold eA; rw [he]; exact Int.toNat_natCast v
 have h2:eI N x = j:=by unfold eI; rw [he]; exact Int.toNat_natCast j
 have h3:eB N x = b:=by unfold eB; rw [he]; exact Int.toNat_natCast b
 have h4:eJ N x = i:=by unfold eJ; rw [he]; exact Int.toNat_natCast i
 rw [h1,h2,h3,h4];exact ⟨hv,hj,hb,hi,e1',e2',hp,he⟩
def ltq (e e':Int × Int × Int × Int):Prop:=e.1 < e'.1 ∨ e.1 = e'.1 ∧ e.2.1 < e'.2.1
theorem yz (N:Net) (v:Nat):∀ i,(edN N v i).Pairwise ltq
 | 0=>.nil
 | i + 1=>by
  rw [edN];split
  ·rw [List.pairwise_append];refine ⟨yz N v i,List.pairwise_singleton _ _,fun e he e' he'=>?_⟩;obtain ⟨j,hj,-,rfl⟩:=xf he;rw [List.mem_singleton] at he';subst he';exact .inr ⟨rfl,by show (j:Int) < (i:Int); omega⟩
  ·exact yz N v i
theorem Fi (N:Net):∀ n,(edL N n).Pairwise ltq
 | 0=>.nil
 | n + 1=>by
  rw [edL,List.pairwise_append];refine ⟨Fi N n,yz N n _,fun e he e' he'=>?_⟩;obtain ⟨v,j,hv,-,-,rfl⟩:=G3 he;obtain ⟨i,-,-,rfl⟩:=xf he';exact .inl (by show (v:Int) < (n:Int); omega)
theorem xe {x y:Nat} (hx:x < (edL N N.ends.length).length) (hy:y < (edL N N.ends.length).length) (hs:Sym N.ends) (h1:eA N x = eA N y) (h2:eI N x = eI N y):x = y:=by
 have key:∀ a b,a < b → b < (edL N N.ends.length).length → eA N a = eA N b → eI N a = eI N b → False:=fun a b hab hb h3 h4=>by
  have h5:=List.pairwise_iff_getElem.1 (Fi N N.ends.length) a b (by omega) hb hab;rw [← Ct (show a < _ by omega),← Ct hb] at h5;obtain ⟨-,-,-,-,-,-,-,ea⟩:=e9 hs (show a < (edL N N.ends.length).length by omega);obtain ⟨-,-,-,-,-,-,-,eb⟩:=e9 hs hb;rw [ea,eb] at h5
  rcases h5 with h5 | ⟨-,h5⟩
  ·have h5:(eA N a:Int) < (eA N b:Int):=h5;omega
  ·have h5:(eI N a:Int) < (eI N b:Int):=h5;omega
 rcases Nat.lt_trichotomy x y with h | h | h
 ·exact (key x y h hy h1 h2).elim
 ·exact h
 ·exact (key y x h hx h1.symm h2.symm).elim
theorem Jp (hs:Sym N.ends) {x:Nat} (hx:x < (edL N N.ends.length).length):eA N x < eB N x ∨ eA N x = eB N x ∧ eI N x ≤ eJ N x:=by
 obtain ⟨-,-,-,-,e1,-,hp,-⟩:=e9 hs hx;unfold edP at hp;rw [e1,Bool.or_eq_true,decide_eq_true_iff,Bool.and_eq_true,beq_iff_eq,decide_eq_true_iff] at hp
 rcases hp with h | ⟨h,h2⟩
 ·have h:(eA N x:Int) < (eB N x:Int):=h;exact .inl (by omega)
 ·have h:(eA N x:Int) = (eB N x:Int):=h;have h2:(eI N x:Int) ≤ (eJ N x:Int):=h2;exact .inr (by omega)
theorem xd (hs:Sym N.ends) {x y:Nat} (hx:x < (edL N N.ends.length).length) (hy:y < (edL N N.ends.length).length) (h:(eA N x = eA N y ∧ eI N x = eI N y) ∨ (eA N x = eB N y ∧ eI N x = eJ N y) ∨ (eB N x = eA N y ∧ eJ N x = eI N y) ∨ (eB N x = eB N y ∧ eJ N x = eJ N y)):x = y:=by
 obtain ⟨-,-,-,-,a1,a2,-,-⟩:=e9 hs hx;obtain ⟨-,-,-,-,b1,b2,-,-⟩:=e9 hs hy;have l1:=Jp hs hx;have l2:=Jp hs hy
 rcases h with ⟨h1,h2⟩ | ⟨h1,h2⟩ | ⟨h1,h2⟩ | ⟨h1,h2⟩
 ·exact xe hx hy hs h1 h2
 ·rw [h1,h2,b2] at a1;simp only [Prod.mk.injEq] at a1;exact xe hx hy hs (by omega) (by omega)
 ·rw [h1,h2,b1] at a2;simp only [Prod.mk.injEq] at a2;exact xe hx hy hs (by omega) (by omega)
 ·rw [h1,h2,b2] at a2;simp only [Prod.mk.injEq] at a2;exact xe hx hy hs (by omega) (by omega)
theorem P3 (hs:Sym N.ends) {v i:Nat} (hv:v < N.ends.length) (hi:i < (gl N.ends v).length):∃ x,x < (edL N N.ends.length).length ∧ ((eA N x = v ∧ eI N x = i) ∨ (eB N x = v ∧ eJ N x = i)):=by
 have put:∀ v i,v < N.ends.length → i < (gl N.ends v).length → edP N v i = true → ∃ x,x < (edL N N.ends.length).length ∧ eA N x = v ∧ eI N x = i:=fun v i hv hi hp=>by
  have h1:∀ m,i < m → ((v:Int),(i:Int),(gp (gl N.ends v) i).1,(gp (gl N.ends v) i).2) ∈ edN N v m:=by
   intro m
   induction m with
   | zero=>intro h; omega
   | succ m ih =>
    intro h;rw [edN]
    by_cases him:i = m
    ·subst him;rw [if_pos hp];exact List.mem_append.2 (.inr (List.mem_singleton.2 rfl))
    ·have:=ih (by omega);split
     ·exact List.mem_append.2 (.inl this)
     ·exact this
  have h2:∀ n,v < n → ((v:Int),(i:Int),(gp (gl N.ends v) i).1,(gp (gl N.ends v) i).2) ∈ edL N n:=by
   intro n
   induction n with
   | zero=>intro h; omega
   | succ n ih =>
    intro h;rw [edL]
    by_cases hvn:v = n
    ·subst hvn;exact List.mem_append.2 (.inr (h1 _ hi))
    ·exact List.mem_append.2 (.inl (ih (by omega)))
  obtain ⟨x,hx,he⟩:=List.getElem_of_mem (h2 _ hv);rw [← Ct hx] at he;refine ⟨x,hx,?_,?_⟩
  ·unfold eA; rw [he]; exact Int.toNat_natCast v
  ·unfold eI; rw [he]; exact Int.toNat_natCast i
 obtain ⟨b,j,e1,hb,hj,e2⟩:=hs v i hv hi;have e1':gp (gl N.ends v) i = ((b:Int),(j:Int)):=e1;have e2':gp (gl N.ends b) j = ((v:Int),(i:Int)):=e2
 by_cases hp:edP N v i = true
 ·obtain ⟨x,hx,h1,h2⟩:=put v i hv hi hp;exact ⟨x,hx,.inl ⟨h1,h2⟩⟩
 ·have hp2:edP N b j = true:=by
   unfold edP at hp ⊢;rw [e1'] at hp;rw [e2'];simp only [Bool.or_eq_true,decide_eq_true_iff,Bool.and_eq_true,beq_iff_eq,not_or,not_and,Int.not_lt,Int.not_le] at hp ⊢;obtain ⟨h1,h2⟩:=hp
   by_cases h3:(v:Int) = (b:Int)
   ·have:=h2 h3;exact .inr ⟨h3.symm,by omega⟩
   ·exact .inl (by omega)
  obtain ⟨x,hx,h1,h2⟩:=put b j hb hj hp2;obtain ⟨-,-,-,-,a1,-,-,-⟩:=e9 hs hx;rw [h1,h2,e2'] at a1;simp only [Prod.mk.injEq] at a1;exact ⟨x,hx,.inr ⟨by omega,by omega⟩⟩
structure zd (N:Net) (k:Nat) (P:Nat → Nat → Nat):Prop where
 low:∀ x s,x < (edL N N.ends.length).length → s < k → P x s < k
 inj:∀ x s t,x < (edL N N.ends.length).length → s < k → t < k → P x s = P x t → s = t
 onto:∀ x t,x < (edL N N.ends.length).length → t < k → ∃ s,s < k ∧ P x s = t
 back:∀ x s,x < (edL N N.ends.length).length → s < k → eA N x = eB N x → eI N x = eJ N x → P x (P x s) = s
def Rg (N:Net) (k:Nat) (P:Nat → Nat → Nat) (E:List (List (Int × Int))) (x s:Nat):Prop :=
 gp (gl E (eA N x * k + s)) (eI N x) = (((eB N x * k + P x s:Nat):Int),(eJ N x:Int)) ∧ gp (gl E (eB N x * k + P x s)) (eJ N x) = (((eA N x * k + s:Nat):Int),(eI N x:Int))
theorem T3 (hs:Sym N.ends) (hP:zd N k P) {x:Nat} (hx:x < (edL N N.ends.length).length) {E:List (List (Int × Int))} (hl:E.length = N.ends.length * k) (hr:∀ v s,v < N.ends.length → s < k → (gl E (v * k + s)).length = (gl N.ends v).length) (ho:∀ y t,y < x → t < k → Rg N k P E y t) :
 ∀ s,s ≤ k → (∀ y t,y < x → t < k → Rg N k P (lfS N k P E x s) y t) ∧ ∀ t,t < s → Rg N k P (lfS N k P E x s) x t
 | 0,_=>⟨ho,fun t ht=>absurd ht (Nat.not_lt_zero t)⟩
 | s + 1,hsk=>by
  obtain ⟨ih1,ih2⟩:=T3 hs hP hx hl hr ho s (by omega);obtain ⟨a1,a2,a3,a4,-,-,-,-⟩:=e9 hs hx;have hs1:s < k:=by omega
  have hp:=hP.low x s hx hs1;have g1:=qv hs1 a1;have g2:=qv hp a3;have l1:=Aw (N:=N) (k:=k) (P:=P) E x s;have r1:=wy (N:=N) (k:=k) (P:=P) E x (eA N x * k + s) s;have r2:=wy (N:=N) (k:=k) (P:=P) E x (eB N x * k + P x s) s;rw [hr _ _ a1 hs1] at r1;rw [hr _ _ a3 hp] at r2
  have hat:∀ q j,gp (gl (lfS N k P E x (s + 1)) q) j = if q = eB N x * k + P x s ∧ j = eJ N x then (((eA N x * k + s:Nat):Int),(eI N x:Int)) else if q = eA N x * k + s ∧ j = eI N x then (((eB N x * k + P x s:Nat):Int),(eJ N x:Int)) else gp (gl (lfS N k P E x s) q) j:=fun q j=>by
   rw [lfS,Rz (by rw [Ao,l1,hl]; exact g2) (by rw [An,r2]; exact a4),Rz (by rw [l1,hl]; exact g1) (by rw [r1]; exact a2)]
  refine ⟨fun y t hy ht=>?_,fun t ht=>?_⟩
  ·have hyl:y < (edL N N.ends.length).length:=by omega
   obtain ⟨o1,o2⟩:=ih1 y t hy ht;have hpy:=hP.low y t hyl ht;have ne:¬ y = x:=by omega
   unfold Rg;rw [hat,hat];rw [if_neg,if_neg,if_neg,if_neg]
   ·exact ⟨o1,o2⟩
   ·rintro ⟨h1,h2⟩;exact ne (xd hs hyl hx (.inr (.inr (.inl ⟨(i6 hpy hs1 h1).1,h2⟩))))
   ·rintro ⟨h1,h2⟩;exact ne (xd hs hyl hx (.inr (.inr (.inr ⟨(i6 hpy hp h1).1,h2⟩))))
   ·rintro ⟨h1,h2⟩;exact ne (xd hs hyl hx (.inl ⟨(i6 ht hs1 h1).1,h2⟩))
   ·rintro ⟨h1,h2⟩;exact ne (xd hs hyl hx (.inr (.inl ⟨(i6 ht hp h1).1,h2⟩)))
  ·have htk:t < k:=by omega
   have hpt:=hP.low x t hx htk;unfold Rg;rw [hat,hat];constructor
   ·by_cases c1:eA N x * k + t = eB N x * k + P x s ∧ eI N x = eJ N x
    ·rw [if_pos c1];obtain ⟨d1,d2⟩:=i6 htk hp c1.1;have h3:=hP.back x s hx hs1 d1 c1.2;rw [← d2] at h3;rw [h3,d1,c1.2]
    ·rw [if_neg c1]
     by_cases c2:eA N x * k + t = eA N x * k + s ∧ eI N x = eI N x
     ·rw [if_pos c2];obtain ⟨-,d2⟩:=i6 htk hs1 c2.1;rw [d2]
     ·rw [if_neg c2]
      have hts:t < s:=by
       have:t ≠ s:=fun h=>c2 ⟨by rw [h],rfl⟩;omega
      exact (ih2 t hts).1
   ·by_cases c1:eB N x * k + P x t = eB N x * k + P x s ∧ eJ N x = eJ N x
    ·rw [if_pos c1];obtain ⟨-,d2⟩:=i6 hpt hp c1.1;rw [hP.inj x t s hx htk hs1 d2]
    ·rw [if_neg c1]
     have hts:t < s:=by
      have:t ≠ s:=fun h=>c1 ⟨by rw [h],rfl⟩;omega
     by_cases c2:eB N x * k + P x t = eA N x * k + s ∧ eJ N x = eI N x
     ·rw [if_pos c2];obtain ⟨d1,d2⟩:=i6 hpt hs1 c2.1;have h3:=hP.back x t hx htk d1.symm c2.2.symm;rw [d2] at h3;rw [h3,d1,c2.2]
     ·rw [if_neg c2];exact (ih2 t hts).2
theorem T5 (hs:Sym N.ends) (hP:zd N k P):∀ x,x ≤ (edL N N.ends.length).length → ∀ y t,y < x → t < k → Rg N k P (lfE N k P x) y t
 | 0,_,y,_,hy,_=>absurd hy (Nat.not_lt_zero y)
 | x + 1,hx,y,t,hy,ht=>by
  obtain ⟨h1,h2⟩:=T3 hs hP (show x < (edL N N.ends.length).length by omega) (mq (N:=N) (k:=k) (P:=P) x) (fun v s hv hs2=>ph hv hs2 x) (T5 hs hP x (by omega)) k (Nat.le_refl k);rw [lfE]
  by_cases hyx:y = x
  ·rw [hyx]; exact h2 t ht
  ·exact h1 y t (by omega) ht
theorem W6 (hs:Sym N.ends) (hP:zd N k P):Sym (lfE N k P (edL N N.ends.length).length):=fun a i ha hi=>by
 rw [mq] at ha
 have hk:0 < k:=by
  rcases Nat.eq_zero_or_pos k with h | h
  ·rw [h,Nat.mul_zero] at ha; omega
  ·exact h
 have e0:=Nat.div_add_mod a k;have e1:a % k < k:=Nat.mod_lt a hk;have e2:a / k < N.ends.length:=by rw [Nat.div_lt_iff_lt_mul hk]; exact ha
 obtain ⟨v,hv⟩:∃ v,v = a / k:=⟨_,rfl⟩;obtain ⟨s,hs1⟩:∃ s,s = a % k:=⟨_,rfl⟩;rw [← hv,← hs1,Nat.mul_comm] at e0;rw [← hs1] at e1;rw [← hv] at e2;subst e0;have hi':i < (gl (lfE N k P (edL N N.ends.length).length) (v * k + s)).length:=hi;rw [ph e2 e1] at hi';have hok:=T5 hs hP (edL N N.ends.length).length (Nat.le_refl _);obtain ⟨x,hx,⟨rfl,rfl⟩ | ⟨rfl,rfl⟩⟩:=P3 hs e2 hi'
 ·obtain ⟨a1,a2,a3,a4,-,-,-,-⟩:=e9 hs hx;have hp:=hP.low x s hx e1;obtain ⟨o1,o2⟩:=hok x s hx e1;exact ⟨eB N x * k + P x s,eJ N x,o1,by rw [mq]; exact qv hp a3,by show _ < (gl _ _).length; rw [ph a3 hp]; exact a4,o2⟩
 ·obtain ⟨a1,a2,a3,a4,-,-,-,-⟩:=e9 hs hx;obtain ⟨t,ht,rfl⟩:=hP.onto x s hx e1;obtain ⟨o1,o2⟩:=hok x t hx ht;exact ⟨eA N x * k + t,eI N x,o2,by rw [mq]; exact qv ht a1,by show _ < (gl _ _).length; rw [ph a1 ht]; exact a2,o1⟩
end
end
section
open Go Go.RowKit
theorem y5 (N:Net) {d:Nat} (hdg:∀ v,(gl N.ends v).length ≤ d):∀ n,(edL N n).length ≤ n * d
 | 0=>by rw [Nat.zero_mul]; exact Nat.le_refl _
 | n + 1=>by
  have h1:=y5 N hdg n;have h2:=Ou N n (gl N.ends n).length;have h3:=hdg n;rw [edL,List.length_append,Nat.add_mul,Nat.one_mul];omega
theorem Qy (N:Net) (hn:N.ends.length ≤ 1000) (hdg:∀ v,(gl N.ends v).length ≤ 1000):(edL N N.ends.length).length ≤ 1000000:=by
 have h1:=y5 N hdg N.ends.length;have h2:=Nat.mul_le_mul_right 1000 hn;omega
def coLiftSt8:Nat → Stat
 | 0=>⟨[7],[(7,1)],[],[34],[],[]⟩
 | 1=>⟨[34],[(7,1)],[],[35],[],[]⟩
 | 2=>⟨[8],[],[],[36],[],[]⟩
 | 3=>⟨[1],[],[],[37],[],[]⟩
 | 4=>⟨[36,37],[],[],[38],[],[]⟩
 | 5=>⟨[10],[],[],[39],[],[]⟩
 | 6=>⟨[38,39],[],[],[40],[],[]⟩
 | 7=>⟨[9],[],[],[41],[],[]⟩
 | 8=>⟨[41],[],[],[42],[],[]⟩
 | 9=>⟨[42],[],[],[43],[],[]⟩
 | 10=>⟨[35,40],[(7,1)],[],[44],[],[]⟩
 | 11=>⟨[44,43],[(7,2)],[43],[],[(7,2),(43,1)],[]⟩
 | _=>⟨[],[],[],[],[],[]⟩
def coLiftSt9:Nat → Stat
 | 0=>⟨[7],[(7,1)],[],[45],[],[]⟩
 | 1=>⟨[45],[(7,1)],[],[46],[],[]⟩
 | 2=>⟨[8],[],[],[47],[],[]⟩
 | 3=>⟨[1],[],[],[48],[],[]⟩
 | 4=>⟨[47,48],[],[],[49],[],[]⟩
 | 5=>⟨[10],[],[],[50],[],[]⟩
 | 6=>⟨[49,50],[],[],[51],[],[]⟩
 | 7=>⟨[3],[(3,1)],[],[52],[],[]⟩
 | 8=>⟨[52],[(3,1)],[],[53],[],[]⟩
 | 9=>⟨[8],[],[],[54],[],[]⟩
 | 10=>⟨[53,54],[],[],[55],[],[]⟩
 | 11=>⟨[55],[],[],[56],[],[]⟩
 | 12=>⟨[46,51],[(7,1)],[],[57],[],[]⟩
 | 13=>⟨[57,56],[(7,2)],[],[],[(7,2)],[]⟩
 | _=>⟨[],[],[],[],[],[]⟩
def coLiftSt17:Nat → Stat
 | 0=>⟨[7],[(7,1)],[],[77],[],[]⟩
 | 1=>⟨[77],[(7,1)],[],[78],[],[]⟩
 | 2=>⟨[12],[],[],[79],[],[]⟩
 | 3=>⟨[79],[],[],[80],[],[]⟩
 | 4=>⟨[80],[],[],[81],[],[]⟩
 | 5=>⟨[1],[],[],[82],[],[]⟩
 | 6=>⟨[81,82],[],[],[83],[],[]⟩
 | 7=>⟨[13],[],[],[84],[],[]⟩
 | 8=>⟨[83,84],[],[],[85],[],[]⟩
 | 9=>⟨[78,85],[(7,1)],[],[86],[],[]⟩
 | 10=>⟨[86],[(7,2)],[],[87],[],[]⟩
 | 11=>⟨[12],[],[],[88],[],[]⟩
 | 12=>⟨[88],[],[],[89],[],[]⟩
 | 13=>⟨[89],[],[],[90],[],[]⟩
 | 14=>⟨[12],[],[],[91],[],[]⟩
 | 15=>⟨[91],[],[],[92],[],[]⟩
 | 16=>⟨[92],[],[],[93],[],[]⟩
 | 17=>⟨[1],[],[],[94],[],[]⟩
 | 18=>⟨[93,94],[],[],[95],[],[]⟩
 | 19=>⟨[14],[],[],[96],[],[]⟩
 | 20=>⟨[95,96],[],[],[97],[],[]⟩
 | 21=>⟨[12],[],[],[98],[],[]⟩
 | 22=>⟨[98],[],[],[99],[],[]⟩
 | 23=>⟨[99],[],[],[100],[],[]⟩
 | 24=>⟨[97,100],[],[],[101],[],[]⟩
 | 25=>⟨[87,90],[(7,2)],[],[102],[],[]⟩
 | 26=>⟨[102,101],[(7,3)],[],[],[(7,3)],[]⟩
 | _=>⟨[],[],[],[],[],[]⟩
def coLiftSt18:Nat → Stat
 | 0=>⟨[7],[(7,1)],[],[103],[],[]⟩
 | 1=>⟨[103],[(7,1)],[],[104],[],[]⟩
 | 2=>⟨[12],[],[],[105],[],[]⟩
 | 3=>⟨[105],[],[],[106],[],[]⟩
 | 4=>⟨[106],[],[],[107],[],[]⟩
 | 5=>⟨[1],[],[],[108],[],[]⟩
 | 6=>⟨[107,108],[],[],[109],[],[]⟩
 | 7=>⟨[14],[],[],[110],[],[]⟩
 | 8=>⟨[109,110],[],[],[111],[],[]⟩
 | 9=>⟨[104,111],[(7,1)],[],[112],[],[]⟩
 | 10=>⟨[112],[(7,2)],[],[113],[],[]⟩
 | 11=>⟨[12],[],[],[114],[],[]⟩
 | 12=>⟨[114],[],[],[115],[],[]⟩
 | 13=>⟨[115],[],[],[116],[],[]⟩
 | 14=>⟨[12],[],[],[117],[],[]⟩
 | 15=>⟨[117],[],[],[118],[],[]⟩
 | 16=>⟨[118],[],[],[119],[],[]⟩
 | 17=>⟨[1],[],[],[120],[],[]⟩
 | 18=>⟨[119,120],[],[],[121],[],[]⟩
 | 19=>⟨[13],[],[],[122],[],[]⟩
 | 20=>⟨[121,122],[],[],[123],[],[]⟩
 | 21=>⟨[12],[],[],[124],[],[]⟩
 | 22=>⟨[124],[],[],[125],[],[]⟩
 | 23=>⟨[125],[],[],[126],[],[]⟩
 | 24=>⟨[123,126],[],[],[127],[],[]⟩
 | 25=>⟨[113,116],[(7,2)],[],[128],[],[]⟩
 | 26=>⟨[128,127],[(7,3)],[],[],[(7,3)],[]⟩
 | _=>⟨[],[],[],[],[],[]⟩
def lfZ (N:Net) (k y:Nat):List (List (Int × Int)):=(List.range (N.ends.length * k)).map fun x=>if x < y then List.replicate (gl N.ends (x / k)).length (0,0) else []
def lfI (N:Net) (k y:Nat):List Int:=(List.range (N.ends.length * k)).map fun x=>if x < y then gi N.inputs (x / k) else 0
theorem W3 (N:Net) (k y:Nat):(lfZ N k y).length = N.ends.length * k:=by simp [lfZ]
theorem Od (N:Net) (k y:Nat):(lfI N k y).length = N.ends.length * k:=by simp [lfI]
theorem T2 (N:Net) (k:Nat):List.replicate (N.ends.length * k) ([]:List (Int × Int)) = lfZ N k 0:=by
 unfold lfZ;apply List.ext_getElem
 ·simp
 ·intro i h1 h2; simp
theorem T4 (N:Net) (k:Nat):List.replicate (N.ends.length * k) (0:Int) = lfI N k 0:=by
 unfold lfI;apply List.ext_getElem
 ·simp
 ·intro i h1 h2; simp
theorem W4 (N:Net) (k:Nat):lfZ N k (N.ends.length * k) = lf0 N k:=by
 unfold lfZ lf0;refine List.map_congr_left fun x hx=>?_;rw [if_pos (List.mem_range.1 hx)]
theorem yd {α:Type} {n y:Nat} {f:Nat → α} {z:α} (h:y < n):((List.range n).map fun x=>if x < y then f x else z).set y (f y) = (List.range n).map fun x=>if x < y + 1 then f x else z:=by
 apply List.ext_getElem
 ·simp
 ·intro i h1 h2;simp only [List.getElem_set,List.getElem_map,List.getElem_range]
  by_cases h3:y = i
  ·subst h3; rw [if_pos rfl,if_pos (by omega)]
  ·rw [if_neg h3]
   by_cases h4:i < y
   ·rw [if_pos h4,if_pos (by omega)]
   ·rw [if_neg h4,if_neg (by omega)]
theorem W2 {N:Net} {k y:Nat} (h:y < N.ends.length * k):(lfZ N k y).set y (List.replicate (gl N.ends (y / k)).length (0,0)) = lfZ N k (y + 1):=yd (f:=fun x=>List.replicate (gl N.ends (x / k)).length ((0:Int),(0:Int))) h
theorem W5 {N:Net} {k y:Nat} (h:y < N.ends.length * k):(lfI N k y).set y (gi N.inputs (y / k)) = lfI N k (y + 1):=yd (f:=fun x=>gi N.inputs (x / k)) h
def Gq (N:Net) (k:Nat) (P:Nat → Nat → Nat):Net:=⟨lfE N k P (edL N N.ends.length).length,[],lfI N k (N.ends.length * k)⟩
theorem nf:Int.toNat 2 = 2:=rfl
theorem nc:Int.toNat 3 = 3:=rfl
theorem Rj (n:Nat):fc [.int .i64 0,.int .i64 0] n = (List.replicate n ((0:Int),(0:Int))).map eC:=by simp [fc,eC]
theorem Ht (E:List (List (Int × Int))) (p i:Nat) (e:Int × Int):qm E p i e = wr1 E p i e:=rfl
def zBBs71:=PLift.up (And.intro aq (And.intro @netO.eq_1 (And.intro @cf (And.intro bn (And.intro b7 (And.intro cd (And.intro ch (And.intro bb (And.intro ee (And.intro @if_pos.{1} (And.intro @cx (And.intro @cw (And.intro @bo (And.intro @a7 (And.intro @ba (And.intro @df (And.intro @ek @trivial)))))))))))))))))
theorem ja4:type_of% zBBs71.down:=zBBs71.down
set_option maxRecDepth 8000 in
set_option maxHeartbeats 0 in
theorem U9 (f:NF) (N:Net) (o:Bool) (t:TypeId) (k:Nat) (L:List (List Int)) (P:Nat → Nat → Nat) (hs:Sym N.ends) (hin:N.inputs.length = N.ends.length) (hk0:0 < k) (hk:k ≤ 1000) (hn:N.ends.length ≤ 1000) (hkn:N.ends.length * k ≤ 1000) (hdg:∀ v,(gl N.ends v).length ≤ 1000) (hL:L.length = (edL N N.ends.length).length) (hLr:∀ x,x < L.length → (lg L x).length = k) (hP:zd N k P) (hPx:∀ x s,x < L.length → s < k → gi (lg L x) s = (P x s:Nat)):DCalls Tryz.prog 151 [.agg (be f N),.c (.p (.int .i64 k)),.c (.sl o t 1 (L.map (lsC 3)))] (fun r=>r = [.own true (netO (Gq N k P))]):=by
 have hkn1:(k:Int) * (N.ends.length:Int) = ((N.ends.length * k:Nat):Int):=by rw [Int.natCast_mul,Int.mul_comm]
 have hkn2:0 ≤ (k:Int) * (N.ends.length:Int) ∧ (k:Int) * (N.ends.length:Int) ≤ 1000:=by rw [hkn1]; omega
 have hem:dn (N.ends.length * k) = ⟨lfZ N k 0,[],lfI N k 0⟩:=by unfold dn; rw [T2,T4]
 refine aw Tryz.func151 rfl (by rw [Tryz.ntmps151]; simp) fun w0=>?_;rw [Tryz.ntmps151];have dX:=ja4;simp only [bw,bf,Arg.av,be,b9,ints,ends];refine ab (dR fun K hK=>?_);(repeat refine eV ?_);refine aa (hK _ (wK [1,2,3,6] ?_));clear hK K;have dX:=And.intro dX (@hkn1);refine ab (dR fun K hK=>?_);(repeat refine eV ?_);have dX:=And.intro dX (@hkn1);refine cL rfl ⟨rfl,_,rfl⟩ (by omega) (by first | exact nj) (js (N.ends.length * k) hkn) ?_;rintro _ rfl;(repeat refine eV ?_);have dK:=And.intro @hem @netO.eq_1;refine aa (hK _ (au [1,2,3,6,7] ?_));clear hK K;refine ab ?_;refine ab (dR fun K hK=>?_);(repeat refine eV ?_);refine aa (hK _ (wK [1,2,3,6,7,22,23,24] ?_));clear hK K;refine ac ?_;have h0k:0 * k = 0:=Nat.zero_mul k;refine ax (X:=Nat) (fun v=>v ≤ N.ends.length) (fun v=>[(24,.c (.p (.int .i64 v)))]) (fun v=>[((7,0),⟨some 31,[.sl true 95 1 ((lfZ N k (v * k)).map (esC 97)),.sl true 3 1 (([]:List Int).map iC),.sl true 3 1 ((lfI N k (v * k)).map iC)]⟩)]) (fun v=>N.ends.length - v) 0 (Nat.zero_le _) (by first | rfl | (simp only [ae,pZ,simprocAttr,Int.natCast_zero,h0k] <;> rfl)) ?_;rintro v hv;intro E hE;simp only [ae,pZ,simprocAttr] at hE;subst hE;refine ab (dR fun K hK=>?_);(repeat refine eV ?_);refine aa (hK _ (wK [1,2,3,6,7,22,23,24,25] ?_));clear hK K;refine ab (dI (fun hb=>?_) (fun hb=>?_))
 ·have hvn:v < N.ends.length:=by simpa using hb
  have hvk:(v + 1) * k = v * k + k:=by rw [Nat.add_mul,Nat.one_mul]
  have hvk2:v * k + k ≤ N.ends.length * k:=by rw [← hvk]; exact Nat.mul_le_mul_right k hvn
  have hvk3:(v:Int) * (k:Int) = ((v * k:Nat):Int):=by rw [Int.natCast_mul]
  have hvk4:0 ≤ (v:Int) * (k:Int) ∧ (v:Int) * (k:Int) ≤ 1000:=by rw [hvk3]; omega
  have hdv:=hdg v;obtain ⟨q,hq⟩:∃ q,q = v * k:=⟨_,rfl⟩;rw [← hq] at hvk hvk2 hvk3 ⊢;refine af ?_;show DW _ _ _ _ _;refine ab (ac ?_);have dX:=And.intro dX (@Int.toNat_natCast);refine ab (dR fun K hK=>?_);(repeat refine eV ?_);refine aa (hK _ (wK [1,2,3,6,7,8,9,22,23,24] ?_));clear hK K;refine ab (dR fun K hK=>?_);(repeat refine eV ?_);refine aa (hK _ (wK [1,2,3,6,7,8,9,10,22,23,24] ?_));clear hK K;refine ac ?_;refine ax (X:=Nat) (fun s=>s ≤ k) (fun s=>[(10,.c (.p (.int .i64 s)))]) (fun s=>[((7,0),⟨some 31,[.sl true 95 1 ((lfZ N k (q + s)).map (esC 97)),.sl true 3 1 (([]:List Int).map iC),.sl true 3 1 ((lfI N k (q + s)).map iC)]⟩)]) (fun s=>k - s) 0 (Nat.zero_le _) (by first | rfl | (simp only [ae,pZ,simprocAttr,Int.natCast_zero,Nat.add_zero] <;> rfl)) ?_;rintro s hsk;intro E hE;simp only [ae,pZ,simprocAttr] at hE;subst hE;obtain ⟨y,hy⟩:∃ y,y = q + s:=⟨_,rfl⟩;have hZl:=W3 N k y;have hIl:=Od N k y;have hqs:(q:Int) + (s:Int) = (y:Int):=by omega
  have hend:s = k → y = (v + 1) * k:=fun h=>by rw [hvk]; omega
  rw [← hy];refine ab ?_;refine ab (dR fun K hK=>?_);(repeat refine eV ?_);refine aa (hK _ (wK [1,2,3,6,7,8,9,10,22,23,24,31] ?_));clear hK K;refine dI ?_ ?_<;>intro hb
  ·have hs1:s < k:=by simpa using hb
   have hyn:y < N.ends.length * k:=by omega
   have hyd:y / k = v:=by
    rw [hy,hq,Nat.mul_comm,Nat.mul_add_div (by omega),Nat.div_eq_of_lt hs1,Nat.add_zero]
   have hnZ:=W2 hyn;have hnI:=W5 hyn;rw [hyd] at hnZ hnI;have hys:y + 1 = q + (s + 1):=by omega
   refine af ?_;show DW _ _ _ _ _;refine ab (ac ?_);have dX:=And.intro dX (And.intro @coLiftSt8.eq_def (And.intro @hvk3 (And.intro @hqs (And.intro @ef (And.intro @jr (And.intro @hZl (And.intro @Rj @Int.toNat_natCast)))))));refine ab (cm coLiftSt8 (fun j r=>match j with | _=>True) fun K hK=>?_);(repeat refine dV ?_);have dK:=And.intro @hvk3 (And.intro @hqs (And.intro @Rj (And.intro @Gz @hnZ)));refine ak (hK _ (au [1,2,3,6,7,8,9,10,22,23,24] ?_));clear hK K;have dX:=And.intro dX (And.intro @coLiftSt9.eq_def (And.intro @hvk3 (And.intro @hqs (And.intro @hIl @Int.toNat_natCast))));refine cm coLiftSt9 (fun j r=>match j with | _=>True) fun K hK=>?_;(repeat refine dV ?_);have dK:=And.intro @hvk3 (And.intro @hqs (And.intro @lv @hnI));refine ak (hK _ (au [1,2,3,6,7,8,9,10,22,23,24] ?_));clear hK K;refine dR fun K hK=>?_;(repeat refine eV ?_);have dK:=And.intro @bj @hys;refine aa (hK _ ?_);clear hK K;show ∃ x,_ ∧ _ ∧ Weak _ _;refine ⟨s + 1,?_,?_,ay [1,2,3,6,7,8,9,10,22,23,24]⟩
   ·omega
   ·omega
  ·have hsk2:s = k:=by
    have:¬ s < k:=by simpa using hb
    omega
   rw [hend hsk2];refine an ?_;refine bd [1,2,3,6,7,22,23,24] (by simp only [ae,pZ,simprocAttr]; exact rfl) ?_;refine dR fun K hK=>?_;(repeat refine eV ?_);have dK:=@bj;refine aa (hK _ ?_);clear hK K;show ∃ x,_ ∧ _ ∧ Weak _ _;refine ⟨v + 1,?_,?_,ay [1,2,3,6,7,22,23,24]⟩
   ·omega
   ·omega
 ·have hv2:v = N.ends.length:=by
   have:¬ v < N.ends.length:=by simpa using hb
   omega
  have hlf:lfZ N k (v * k) = lfE N k P 0:=by rw [hv2,W4]; rfl
  rw [hlf,hv2];refine an ?_;refine bd [1,2,3,6,7] (by simp only [ae,pZ,simprocAttr]; exact rfl) ?_;have heL:jh N N.ends.length = (edL N N.ends.length).map qL:=vh N _;obtain ⟨EE,hEE⟩:∃ EE,EE = jh N N.ends.length:=⟨_,rfl⟩;have hEEl:EE.length = L.length:=by rw [hEE,heL,List.length_map,hL]
  have hEEg:∀ x,x < L.length → gi (lg EE x) 0 = (eA N x:Nat) ∧ gi (lg EE x) 1 = (eI N x:Nat) ∧ gi (lg EE x) 2 = (eB N x:Nat) ∧ gi (lg EE x) 3 = (eJ N x:Nat) ∧ (lg EE x).length = 4:=fun x hx=>by
   obtain ⟨-,-,-,-,-,-,-,h8⟩:=e9 hs (x:=x) (by rw [← hL]; exact hx)
   have h9:lg EE x = qL (gq (edL N N.ends.length) x):=by
    rw [hEE,heL,Cm (by rw [List.length_map,← hL]; exact hx),List.getElem_map,Ct (by rw [← hL]; exact hx)]
   rw [h9,h8];exact ⟨rfl,rfl,rfl,rfl,rfl⟩
  have hEEn:L.length ≤ 1000000:=by
   rw [hL]; exact Qy N hn hdg
  refine ab ?_;refine ab (dR fun K hK=>?_);(repeat refine eV ?_);have dX:=And.intro dX ((Eq.symm hEE));refine cL rfl ⟨rfl,_,rfl⟩ (by omega) (by first | exact Tr) (Ex ⟨false,f.t1,f.o2,f.t2,false,f.t3,false,f.t4⟩ N hn (fun v _=>hdg v)) ?_;rintro _ rfl;(repeat refine eV ?_);have dK:=@hEEl;refine aa (hK _ (au [1,2,6,7,60,61,62] ?_));clear hK K;refine C4 60 [1,2,6,7,60,61,62] rfl rfl (by simp only [ae,pZ,simprocAttr,Ii,En,wj,wh,ny]; exact rfl) ?_;refine ac ?_;refine ax (X:=Nat) (fun x=>x ≤ L.length) (fun x=>[(62,.c (.p (.int .i64 x)))]) (fun x=>[((7,0),⟨some 31,[.sl true 95 1 ((lfE N k P x).map (esC 97)),.sl true 3 1 (([]:List Int).map iC),.sl true 3 1 ((lfI N k (N.ends.length * k)).map iC)]⟩)]) (fun x=>L.length - x) 0 (Nat.zero_le _) (by first | rfl | (simp only [ae,pZ,simprocAttr,Int.natCast_zero] <;> rfl)) ?_;rintro x hx;intro E hE;simp only [ae,pZ,simprocAttr] at hE;subst hE;refine ab (dR fun K hK=>?_);(repeat refine eV ?_);refine aa (hK _ (wK [1,2,6,7,60,61,62,63] ?_));clear hK K;refine ab (dI (fun hb=>?_) (fun hb=>?_))
  ·have hx1:x < L.length:=by simpa using hb
   obtain ⟨g0,g1,g2,g3,g4⟩:=hEEg x hx1;obtain ⟨b1,b2,b3,b4,-,-,-,-⟩:=e9 hs (x:=x) (by rw [← hL]; exact hx1);have hLx:=hLr x hx1;have hF1:=mq (N:=N) (k:=k) (P:=P) x;have hF3:∀ v s,v < N.ends.length → s < k → (gl (lfE N k P x) (v * k + s)).length = (gl N.ends v).length:=fun v s h1 h2=>ph h1 h2 x;obtain ⟨F,hF⟩:∃ F,F = lfE N k P x:=⟨_,rfl⟩;have hFn:lfS N k P F x k = lfE N k P (x + 1):=by rw [hF]; rfl
   rw [← hF] at hF1 hF3 ⊢;obtain ⟨va,hva⟩:∃ va,va = eA N x:=⟨_,rfl⟩;obtain ⟨vb,hvb⟩:∃ vb,vb = eB N x:=⟨_,rfl⟩;rw [← hva] at g0 b1 b2;rw [← hvb] at g2 b3 b4;have ha3:(va:Int) * (k:Int) = ((va * k:Nat):Int):=by rw [Int.natCast_mul]
   have hb3:(vb:Int) * (k:Int) = ((vb * k:Nat):Int):=by rw [Int.natCast_mul]
   obtain ⟨qa,hqa⟩:∃ q,q = va * k:=⟨_,rfl⟩;obtain ⟨qb,hqb⟩:∃ q,q = vb * k:=⟨_,rfl⟩;have hqa2:qa + k ≤ N.ends.length * k:=by rw [hqa,← Nat.succ_mul]; exact Nat.mul_le_mul_right k b1
   have hqb2:qb + k ≤ N.ends.length * k:=by rw [hqb,← Nat.succ_mul]; exact Nat.mul_le_mul_right k b3
   rw [← hqa] at ha3;rw [← hqb] at hb3;have ha4:0 ≤ (va:Int) * (k:Int) ∧ (va:Int) * (k:Int) ≤ 1000:=by rw [ha3]; omega
   have hb4:0 ≤ (vb:Int) * (k:Int) ∧ (vb:Int) * (k:Int) ≤ 1000:=by rw [hb3]; omega
   refine af ?_;show DW _ _ _ _ _;refine ab (ac ?_);have dX:=And.intro dX (And.intro @Int.toNat_natCast @hEEl);refine ab (dR fun K hK=>?_);(repeat refine eV ?_);have dK:=@hEEl;refine aa (hK _ (au [1,2,6,7,11,12,60,61,62] ?_));clear hK K;have dX:=And.intro dX (And.intro @Int.toNat_natCast @hLx);refine ab (dR fun K hK=>?_);(repeat refine eV ?_);have dK:=@hLx;refine aa (hK _ (au [1,2,6,7,12,60,61,62,70,71,72] ?_));clear hK K;refine ac ?_;refine ax (X:=Nat) (fun s=>s ≤ k) (fun s=>[(72,.c (.p (.int .i64 s)))]) (fun s=>[((7,0),⟨some 31,[.sl true 95 1 ((lfS N k P F x s).map (esC 97)),.sl true 3 1 (([]:List Int).map iC),.sl true 3 1 ((lfI N k (N.ends.length * k)).map iC)]⟩)]) (fun s=>k - s) 0 (Nat.zero_le _) (by first | rfl | (simp only [ae,pZ,simprocAttr,Int.natCast_zero] <;> rfl)) ?_;rintro s hsk;intro E hE;simp only [ae,pZ,simprocAttr] at hE;subst hE;have hG1:=Aw (N:=N) (k:=k) (P:=P) F x s;have hG2:=fun q=>wy (N:=N) (k:=k) (P:=P) F x q s;have hG3:lfS N k P F x (s + 1) = wr1 (wr1 (lfS N k P F x s) (qa + s) (eI N x) (((qb + P x s:Nat):Int),(eJ N x:Int))) (qb + P x s) (eJ N x) (((qa + s:Nat):Int),(eI N x:Int)):=by rw [lfS,hqa,hqb,hva,hvb]
   have hGe:s = k → lfS N k P F x s = lfE N k P (x + 1):=fun h=>by rw [h,hFn]
   obtain ⟨G,hG⟩:∃ G,G = lfS N k P F x s:=⟨_,rfl⟩;rw [← hG] at hG1 hG2 hG3 hGe ⊢;rw [hF1] at hG1;refine ab (dR fun K hK=>?_);(repeat refine eV ?_);refine aa (hK _ (wK [1,2,6,7,12,60,61,62,70,71,72,73] ?_));clear hK K;refine ab (dI (fun hb=>?_) (fun hb=>?_))
   ·have hs1:s < k:=by simpa using hb
    have hp1:=hPx x s hx1 hs1;have hp2:=hP.low x s (by rw [← hL]; exact hx1) hs1;obtain ⟨u,hu⟩:∃ u,u = P x s:=⟨_,rfl⟩;rw [← hu] at hp1 hp2 hG3;obtain ⟨ya,hya⟩:∃ y,y = qa + s:=⟨_,rfl⟩;obtain ⟨yb,hyb⟩:∃ y,y = qb + u:=⟨_,rfl⟩;have hna:(qa:Int) + (s:Int) = (ya:Int):=by omega
    have hnb:(qb:Int) + (u:Int) = (yb:Int):=by omega
    have hra:(gl G ya).length = (gl N.ends va).length:=by rw [hG2,hya,hqa]; exact hF3 va s b1 hs1
    have hrb:(gl G yb).length = (gl N.ends vb).length:=by rw [hG2,hyb,hqb]; exact hF3 vb u b3 hp2
    rw [← hya,← hyb] at hG3;obtain ⟨G2,hG4⟩:∃ G2,G2 = wr1 G ya (eI N x) ((yb:Int),(eJ N x:Int)):=⟨_,rfl⟩;have hG5:G2.length = N.ends.length * k:=by rw [hG4,Ao,hG1]
    have hG6:(gl G2 yb).length = (gl N.ends vb).length:=by rw [hG4,An,hrb]
    rw [← hG4] at hG3;refine af ?_;show DW _ _ _ _ _;refine ab (ac ?_);have dX:=And.intro dX (And.intro @Int.toNat_natCast (And.intro @hp1 @hLx));refine ab (dR fun K hK=>?_);(repeat refine eV ?_);have dK:=And.intro @hp1 @hLx;refine aa (hK _ (au [1,2,6,7,12,13,14,60,61,62,70,71,72] ?_));clear hK K;have dX:=And.intro dX (And.intro @coLiftSt17.eq_def (And.intro @g0 (And.intro @g1 (And.intro @g2 (And.intro @g3 (And.intro @g4 (And.intro @ha3 (And.intro @hb3 (And.intro @hna (And.intro @hnb (And.intro @hG1 (And.intro @hra (And.intro @a7 (And.intro @ba (And.intro @nf (And.intro @nc (And.intro @ef (And.intro @jr (And.intro @ky (And.intro @kx @Int.toNat_natCast))))))))))))))))))));refine ab (cm coLiftSt17 (fun j r=>match j with | _=>True) fun K hK=>?_);(repeat refine dV ?_);have dK:=And.intro @nf (And.intro @nc (And.intro @g0 (And.intro @g1 (And.intro @g2 (And.intro @g3 (And.intro @ha3 (And.intro @hb3 (And.intro @hna (And.intro @hnb (And.intro @oo (And.intro @Ht (Eq.symm hG4))))))))))));refine ak (hK _ (au [1,2,6,7,12,13,14,60,61,62,70,71,72] ?_));clear hK K;have dX:=And.intro dX (And.intro @coLiftSt18.eq_def (And.intro @g0 (And.intro @g1 (And.intro @g2 (And.intro @g3 (And.intro @g4 (And.intro @ha3 (And.intro @hb3 (And.intro @hna (And.intro @hnb (And.intro @hG5 (And.intro @hG6 (And.intro @a7 (And.intro @ba (And.intro @nf (And.intro @nc (And.intro @ef (And.intro @jr (And.intro @ky (And.intro @kx @Int.toNat_natCast))))))))))))))))))));refine cm coLiftSt18 (fun j r=>match j with | _=>True) fun K hK=>?_;(repeat refine dV ?_);have dK:=And.intro @nf (And.intro @nc (And.intro @g0 (And.intro @g1 (And.intro @g2 (And.intro @g3 (And.intro @ha3 (And.intro @hb3 (And.intro @hna (And.intro @hnb (And.intro @oo (And.intro @Ht (Eq.symm hG3))))))))))));refine ak (hK _ (au [1,2,6,7,12,60,61,62,70,71,72] ?_));clear hK K;refine dR fun K hK=>?_;(repeat refine eV ?_);have dK:=@bj;refine aa (hK _ ?_);clear hK K;show ∃ x,_ ∧ _ ∧ Weak _ _;refine ⟨s + 1,?_,?_,ay [1,2,6,7,12,60,61,62,70,71,72]⟩
    ·omega
    ·omega
   ·have hsk2:s = k:=by
     have:¬ s < k:=by simpa using hb
     omega
    rw [hGe hsk2];refine an ?_;refine bd [1,2,6,7,60,61,62] (by simp only [ae,pZ,simprocAttr]; exact rfl) ?_;refine dR fun K hK=>?_;(repeat refine eV ?_);have dK:=@bj;refine aa (hK _ ?_);clear hK K;show ∃ x,_ ∧ _ ∧ Weak _ _;refine ⟨x + 1,?_,?_,ay [1,2,6,7,60,61,62]⟩
    ·omega
    ·omega
  ·have hx2:x = L.length:=by
    have:¬ x < L.length:=by simpa using hb
    omega
   have hfin:lfE N k P x = (Gq N k P).ends:=by rw [hx2,hL]; rfl
   rw [hfin];refine an ?_;refine bd [6,7] (by simp only [ae,pZ,simprocAttr]; exact rfl) ?_;have dX:=And.intro dX (@netO.eq_1);refine ab (dR fun K hK=>?_);(repeat refine eV ?_);refine aa (hK _ (wK [6] ?_));clear hK K;exact ai (am Tryz.results151 (.one (.cell 6 _ _ _ _ rfl rfl aq rfl rfl (ao (Gq N k P)))) (by decide) rfl)
end
section
open Go Go.RowKit
theorem Fd {n:Int}:∀ (l:List Int) (a:Int),0 ≤ a → a ≤ n → (∀ x ∈ l,0 ≤ x ∧ x < n) → a ≤ l.foldl (fun n k=>mst n (k + 1)) a ∧ l.foldl (fun n k=>mst n (k + 1)) a ≤ n ∧ ∀ x ∈ l,x < l.foldl (fun n k=>mst n (k + 1)) a
 | [],a,_,h2,_=>⟨Int.le_refl a,h2,fun x hx=>by cases hx⟩
 | y :: l,a,h1,h2,h3=>by
  have hy:=h3 y List.mem_cons_self;have hm:a ≤ mst a (y + 1) ∧ y + 1 ≤ mst a (y + 1) ∧ mst a (y + 1) ≤ n:=by unfold mst; split <;> omega
  obtain ⟨g1,g2,g3⟩:=Fd l (mst a (y + 1)) (by omega) (by omega) fun x hx=>h3 x (List.mem_cons_of_mem _ hx);rw [List.foldl_cons];refine ⟨by omega,g2,fun x hx=>?_⟩
  rcases List.mem_cons.1 hx with rfl | hx
  ·omega
  ·exact g3 x hx
theorem Oc {cls:List Int} {n:Nat} (h0:0 < cls.length) (hr:∀ x ∈ cls,0 ≤ x ∧ x < (n:Int)):∃ m:Nat,du cls = m ∧ 0 < m ∧ m ≤ n ∧ ∀ v,v < cls.length → 0 ≤ gi cls v ∧ gi cls v < m:=by
 have hmem:gi cls 0 ∈ cls:=by rw [bt h0]; exact List.getElem_mem h0
 have h1:=hr _ hmem;obtain ⟨g1,g2,g3⟩:=Fd (n:=(n:Int)) cls 0 (Int.le_refl 0) (by omega) hr;have g4:=g3 _ hmem;have e:du cls = cls.foldl (fun n k=>mst n (k + 1)) 0:=rfl;refine ⟨(du cls).toNat,by rw [e] at *; omega,by rw [e]; omega,by rw [e]; omega,fun v hv=>?_⟩;have h2:gi cls v ∈ cls:=by rw [bt hv]; exact List.getElem_mem hv
 have h3:=g3 _ h2;have h4:=hr _ h2;rw [e]; omega
def rc (cls:List Int) (n m:Nat):Bool:=!(qp m fun c=>decide ((fbL cls n c).length = 0))
theorem lh {cls:List Int} {n m:Nat}:rc cls n m = true ↔ ∀ c:Nat,c < m → ∃ u,u < n ∧ gi cls u = (c:Int):=by
 unfold rc;rw [Bool.not_eq_true'];constructor
 ·intro h c hc
  have hne:(fbL cls n c).length ≠ 0:=fun h2=>by
   have:=(r7 (b:=fun c=>decide ((fbL cls n c).length = 0))).2 ⟨c,hc,decide_eq_true h2⟩;rw [h] at this; cases this
  have h3:gi (fbL cls n c) 0 ∈ fbL cls n c:=by rw [bt (by omega)]; exact List.getElem_mem (by omega)
  obtain ⟨h4,h5,h6⟩:=Az.1 h3;exact ⟨(gi (fbL cls n c) 0).toNat,by omega,h6⟩
 ·intro h;refine pz fun c hc=>decide_eq_false fun h2=>?_;obtain ⟨r0,-⟩:=ii (h c hc);omega
noncomputable def j7 (N:Net) (cls:List Int):Bool :=
 bg N && decide (cls.length = N.ends.length) && (cls.all fun n=>inB n 0 ((N.ends.length:Int) - 1)) && rc cls N.ends.length (du cls).toNat && bg (quN N cls (du cls).toNat) && pmB N (quN N cls (du cls).toNat) cls
theorem K4 {N:Net} {d:Nat} (hg:bg N = true) (hd:IsSd N d):j7 N (bv N d) = true ∧ (du (bv N d)).toNat = br N d:=by
 have hr:=ju hg;have hm:(du (bv N d)).toNat = br N d:=by rw [rj]; exact Int.toNat_natCast _
 refine ⟨?_,hm⟩;unfold j7;rw [hm];simp only [Bool.and_eq_true,decide_eq_true_iff];refine ⟨⟨⟨⟨⟨hg,di N d⟩,?_⟩,lh.2 fun c hc=>ip hd hr hc⟩,By hd hg⟩,Ga hd hr⟩;rw [List.all_eq_true];intro x hx;obtain ⟨i,hi,rfl⟩:=List.getElem_of_mem hx;have hi':i < N.ends.length:=by rw [← di N d]; exact hi
 have h1:=fx (t:=d) hi';have h2:=ll N d;rw [bt hi] at h1;exact db.2 (by omega)
end
section
structure sb (n:Nat) (p:Nat → Nat):Prop where
 low:∀ v,v < n → p v < n
 inj:∀ v w,v < n → w < n → p v = p w → v = w
 onto:∀ w,w < n → ∃ v,v < n ∧ p v = w
def rnR (N:Net) (p:Nat → Nat) (v:Nat):List (Int × Int):=(gl N.ends v).map fun e=>((p e.1.toNat:Nat),e.2)
def rnE (N:Net) (p:Nat → Nat):Nat → List (List (Int × Int))
 | 0=>N.ends
 | v + 1=>(rnE N p v).set (p v) (rnR N p v)
def rnI (N:Net) (p:Nat → Nat):Nat → List Int
 | 0=>N.inputs
 | v + 1=>(rnI N p v).set (p v) (gi N.inputs v)
def rnD (N:Net) (p:Nat → Nat):Nat → List Int
 | 0=>N.ids
 | v + 1=>(rnD N p v).set (p v) (gi N.ids v)
section
variable {N:Net} {p:Nat → Nat}
theorem o7:∀ v,(rnE N p v).length = N.ends.length
 | 0=>rfl
 | v + 1=>by rw [rnE,List.length_set,o7 v]
theorem F4:∀ v,(rnI N p v).length = N.inputs.length
 | 0=>rfl
 | v + 1=>by rw [rnI,List.length_set,F4 v]
theorem F5:∀ v,(rnD N p v).length = N.ids.length
 | 0=>rfl
 | v + 1=>by rw [rnD,List.length_set,F5 v]
theorem Kw (hp:sb N.ends.length p):∀ m,m ≤ N.ends.length → ∀ v,v < m → gl (rnE N p m) (p v) = rnR N p v
 | 0,_,v,hv=>absurd hv (Nat.not_lt_zero v)
 | m + 1,hm,v,hv=>by
  have hpm:=hp.low m (by omega);rw [rnE,om,o7]
  by_cases h:v = m
  ·rw [if_pos ⟨by rw [h],hpm⟩,h]
  ·rw [if_neg (fun hh=>h (hp.inj v m (by omega) (by omega) hh.1))];exact Kw hp m (by omega) v (by omega)
theorem Zg (hs:Sym N.ends) (hp:sb N.ends.length p):Sym (rnE N p N.ends.length):=fun a i ha hi=>by
 rw [o7] at ha;obtain ⟨v,hv,rfl⟩:=hp.onto a ha;have hrow:=Kw hp N.ends.length (Nat.le_refl _);have hi':i < (gl (rnE N p N.ends.length) (p v)).length:=hi;rw [hrow v hv,rnR,List.length_map] at hi';obtain ⟨b,j,e1,hb,hj,e2⟩:=hs v i hv hi';have e1':gp (gl N.ends v) i = ((b:Int),(j:Int)):=e1;have e2':gp (gl N.ends b) j = ((v:Int),(i:Int)):=e2;have hj':j < (gl N.ends b).length:=hj
 have hat:∀ w x,x < (gl N.ends w).length → gp (rnR N p w) x = (((p (gp (gl N.ends w) x).1.toNat:Nat):Int),(gp (gl N.ends w) x).2):=fun w x hx=>by
  simp [rnR,gp,hx]
 refine ⟨p b,j,?_,by rw [o7]; exact hp.low b hb,?_,?_⟩
 ·show gp (gl (rnE N p N.ends.length) (p v)) i = _;rw [hrow v hv,hat v i hi',e1',Int.toNat_natCast]
 ·show j < (gl (rnE N p N.ends.length) (p b)).length;rw [hrow b hb,rnR,List.length_map]; exact hj'
 ·show gp (gl (rnE N p N.ends.length) (p b)) j = _;rw [hrow b hb,hat b j hj',e2',Int.toNat_natCast]
theorem Zh {d:Nat} (hp:sb N.ends.length p) (hd:∀ v,(gl N.ends v).length ≤ d) (a:Nat):(gl (rnE N p N.ends.length) a).length ≤ d:=by
 by_cases ha:a < N.ends.length
 ·obtain ⟨v,hv,rfl⟩:=hp.onto a ha;rw [Kw hp N.ends.length (Nat.le_refl _) v hv,rnR,List.length_map];exact hd v
 ·have:gl (rnE N p N.ends.length) a = []:=by
   unfold gl;rw [List.getD_eq_getElem?_getD,List.getElem?_eq_none (by rw [o7]; omega)]; rfl
  rw [this]; exact Nat.zero_le d
end
end
section
open Go Go.RowKit
def neRenumberSt9:Nat → Stat
 | 0=>⟨[8],[],[],[27],[],[]⟩
 | 1=>⟨[1],[],[],[28],[],[]⟩
 | 2=>⟨[10],[(10,1)],[],[29],[],[]⟩
 | 3=>⟨[29],[(10,1)],[],[30],[],[]⟩
 | 4=>⟨[28,30],[],[],[31],[],[]⟩
 | 5=>⟨[31],[],[],[32],[],[]⟩
 | 6=>⟨[10],[(10,1)],[],[33],[],[]⟩
 | 7=>⟨[33],[(10,1)],[],[34],[],[]⟩
 | 8=>⟨[32,34],[],[],[35],[],[]⟩
 | 9=>⟨[35],[],[],[36],[],[]⟩
 | 10=>⟨[27,36],[(8,1),(36,1)],[8,36],[37],[(8,1)],[]⟩
 | 11=>⟨[37],[],[37],[8],[(37,1)],[]⟩
 | _=>⟨[],[],[],[],[],[]⟩
def neRenumberSt11:Nat → Stat
 | 0=>⟨[5],[(5,1)],[],[39],[],[]⟩
 | 1=>⟨[39],[(5,1)],[],[40],[],[]⟩
 | 2=>⟨[1],[],[],[41],[],[]⟩
 | 3=>⟨[6],[],[],[42],[],[]⟩
 | 4=>⟨[41,42],[],[],[43],[],[]⟩
 | 5=>⟨[43],[],[],[44],[],[]⟩
 | 6=>⟨[8],[],[],[45],[],[]⟩
 | 7=>⟨[40,44],[(5,1)],[],[46],[],[]⟩
 | 8=>⟨[46,45],[(5,2)],[8],[],[(5,2),(8,1)],[]⟩
 | _=>⟨[],[],[],[],[],[]⟩
def neRenumberSt12:Nat → Stat
 | 0=>⟨[5],[(5,1)],[],[47],[],[]⟩
 | 1=>⟨[47],[(5,1)],[],[48],[],[]⟩
 | 2=>⟨[1],[],[],[49],[],[]⟩
 | 3=>⟨[6],[],[],[50],[],[]⟩
 | 4=>⟨[49,50],[],[],[51],[],[]⟩
 | 5=>⟨[51],[],[],[52],[],[]⟩
 | 6=>⟨[2],[(2,1)],[],[53],[],[]⟩
 | 7=>⟨[53],[(2,1)],[],[54],[],[]⟩
 | 8=>⟨[6],[],[],[55],[],[]⟩
 | 9=>⟨[54,55],[],[],[56],[],[]⟩
 | 10=>⟨[56],[],[],[57],[],[]⟩
 | 11=>⟨[48,52],[(5,1)],[],[58],[],[]⟩
 | 12=>⟨[58,57],[(5,2)],[],[],[(5,2)],[]⟩
 | _=>⟨[],[],[],[],[],[]⟩
def neRenumberSt14:Nat → Stat
 | 0=>⟨[5],[(5,1)],[],[63],[],[]⟩
 | 1=>⟨[63],[(5,1)],[],[64],[],[]⟩
 | 2=>⟨[1],[],[],[65],[],[]⟩
 | 3=>⟨[6],[],[],[66],[],[]⟩
 | 4=>⟨[65,66],[],[],[67],[],[]⟩
 | 5=>⟨[67],[],[],[68],[],[]⟩
 | 6=>⟨[2],[(2,1)],[],[69],[],[]⟩
 | 7=>⟨[69],[(2,1)],[],[70],[],[]⟩
 | 8=>⟨[6],[],[],[71],[],[]⟩
 | 9=>⟨[70,71],[],[],[72],[],[]⟩
 | 10=>⟨[72],[],[],[73],[],[]⟩
 | 11=>⟨[64,68],[(5,1)],[],[74],[],[]⟩
 | 12=>⟨[74,73],[(5,2)],[],[],[(5,2)],[]⟩
 | _=>⟨[],[],[],[],[],[]⟩
def rnN (N:Net) (p:Nat → Nat):Net:=⟨rnE N p N.ends.length,rnD N p N.ends.length,rnI N p N.ends.length⟩
theorem Nf (N:Net) (p:Nat → Nat) (v:Nat):(rnR N p v).length = (gl N.ends v).length:=by simp [rnR]
theorem Sx {N:Net} {p:Nat → Nat} {v i:Nat} (h:i < (gl N.ends v).length):(rnR N p v).take i ++ [(((p (gp (gl N.ends v) i).1.toNat:Nat):Int),(gp (gl N.ends v) i).2)] = (rnR N p v).take (i + 1):=by
 rw [List.take_add_one];unfold rnR;simp only [List.getElem?_map,List.getElem?_eq_getElem h,Option.map_some,Option.toList];rw [← gb h]
def zBBs61:=PLift.up (And.intro aq (And.intro @netO.eq_1 (And.intro @cf (And.intro bn (And.intro b7 (And.intro cd (And.intro ch (And.intro bb (And.intro ee (And.intro @if_pos.{1} (And.intro @cx (And.intro @cw (And.intro @bo (And.intro @a7 (And.intro @ba (And.intro @df (And.intro @ek @trivial)))))))))))))))))
theorem ja5:type_of% zBBs61.down:=zBBs61.down
set_option maxRecDepth 8000 in
set_option maxHeartbeats 0 in
theorem Gh (f:NF) (N:Net) (o:Bool) (t:TypeId) (xs:List Int) (p:Nat → Nat) (hsm:er N) (hs:Sym N.ends) (hin:N.inputs.length = N.ends.length) (hid:N.ids = [] ∨ N.ids.length = N.ends.length) (hl:xs.length = N.ends.length) (hp:sb N.ends.length p) (hx:∀ v,v < N.ends.length → gi xs v = (p v:Nat)):DCalls Tryz.prog 128 [.agg (be f N),.c (.sl o t 1 (xs.map iC))] (fun r=>r = [.own true (netO (rnN N p))]):=by
 obtain ⟨sm1,sm2,sm3,sm4⟩:=id hsm;refine aw Tryz.func128 rfl (by rw [Tryz.ntmps128]; simp) fun w0=>?_;rw [Tryz.ntmps128];have dX:=ja5;simp only [bw,bf,Arg.av,be,b9,ints,ends];refine ab (dR fun K hK=>?_);(repeat refine eV ?_);refine aa (hK _ (wK [1,2,4] ?_));clear hK K;refine ab (dR fun K hK=>?_);(repeat refine eV ?_);refine cL rfl ⟨rfl,_,rfl⟩ (by omega) (by first | exact un) (pf ⟨false,f.t1,f.o2,f.t2,false,f.t3,false,f.t4⟩ N hsm) ?_;rintro _ rfl;(repeat refine eV ?_);have dK:=@netO.eq_1;refine aa (hK _ (au [1,2,4,5] ?_));clear hK K;refine ab ?_;refine ab (dR fun K hK=>?_);(repeat refine eV ?_);refine aa (hK _ (wK [1,2,4,5,14,15,16] ?_));clear hK K;refine ac ?_;refine ax (X:=Nat) (fun v=>v ≤ N.ends.length) (fun v=>[(16,.c (.p (.int .i64 v)))]) (fun v=>[((5,0),⟨some 31,[.sl true 95 1 ((rnE N p (v)).map (esC 97)),.sl true 3 1 ((rnD N p (v):List Int).map iC),.sl true 3 1 ((rnI N p (v)).map iC)]⟩)]) (fun v=>N.ends.length - v) 0 (Nat.zero_le _) (by first | rfl | (simp only [ae,pZ,simprocAttr,Int.natCast_zero] <;> rfl)) ?_;rintro v hv;intro E hE;simp only [ae,pZ,simprocAttr] at hE;subst hE;obtain ⟨E,hE⟩:∃ E,E = rnE N p v:=⟨_,rfl⟩;obtain ⟨I,hI⟩:∃ I,I = rnI N p v:=⟨_,rfl⟩;obtain ⟨D,hD⟩:∃ D,D = rnD N p v:=⟨_,rfl⟩;have hEl:E.length = N.ends.length:=by rw [hE]; exact o7 _
 have hIl:I.length = N.ends.length:=by rw [hI,F4,hin]
 have hDl:D.length = N.ids.length:=by rw [hD]; exact F5 _
 have hnE:E.set (p v) (rnR N p v) = rnE N p (v + 1):=by rw [rnE,← hE]
 have hnI:I.set (p v) (gi N.inputs v) = rnI N p (v + 1):=by rw [rnI,← hI]
 have hnD:D.set (p v) (gi N.ids v) = rnD N p (v + 1):=by rw [rnD,← hD]
 have hz:v = N.ends.length → [C.sl true 95 1 (E.map (esC 97)),C.sl true 3 1 (D.map iC),C.sl true 3 1 (I.map iC)] = netO (rnN N p):=fun h=>by rw [hE,hI,hD,h]; rfl
 rw [← hE,← hI,← hD];refine ab (dR fun K hK=>?_);(repeat refine eV ?_);refine aa (hK _ (wK [1,2,4,5,14,15,16,17] ?_));clear hK K;refine ab (dI (fun hb=>?_) (fun hb=>?_))
 ·have hvn:v < N.ends.length:=by simpa using hb
  have hpv:=hp.low v hvn;have hxv:=hx v hvn;have hdv:=sm2 v hvn;refine af ?_;show DW _ _ _ _ _;refine ab (ac ?_);have dX:=And.intro dX (@Int.toNat_natCast);refine ab (dR fun K hK=>?_);(repeat refine eV ?_);refine aa (hK _ (wK [1,2,4,5,6,7,14,15,16] ?_));clear hK K;refine ab (dR fun K hK=>?_);(repeat refine eV ?_);refine aa (hK _ (wK [1,2,4,5,6,7,8,14,15,16] ?_));clear hK K;refine ab ?_;refine ab (dR fun K hK=>?_);(repeat refine eV ?_);refine aa (hK _ (wK [1,2,4,5,6,8,14,15,16,21,22,23] ?_));clear hK K;refine ac ?_;refine pm 8 97 2 (by decide) (by simp only [ae,pZ,simprocAttr]) [1,2,4,5,6,8,14,15,16,21,22,23] (by simp only [ae,pZ,simprocAttr]; exact rfl) ?_;refine ax (X:=Nat) (fun i=>i ≤ (gl N.ends v).length) (fun i=>[(23,.c (.p (.int .i64 i)))]) (fun i=>[((8,0),⟨none,[.sl true 97 2 (((rnR N p v).take i).map eC)]⟩)]) (fun i=>(gl N.ends v).length - i) 0 (Nat.zero_le _) (by first | rfl | (simp only [ae,pZ,simprocAttr,Int.natCast_zero,List.take_zero,List.map_nil] <;> rfl)) ?_;rintro i hi;intro E hE;simp only [ae,pZ,simprocAttr] at hE;subst hE;have htl:((rnR N p v).take i).length = i:=by rw [List.length_take,Nf]; omega
  obtain ⟨K,hK⟩:∃ K,K = (rnR N p v).take i:=⟨_,rfl⟩;rw [← hK] at htl ⊢;refine ab (dR fun K hK=>?_);(repeat refine eV ?_);refine aa (hK _ (wK [1,2,4,5,6,8,14,15,16,21,22,23,24] ?_));clear hK K;refine ab (dI (fun hb=>?_) (fun hb=>?_))
  ·have hi1:i < (gl N.ends v).length:=by simpa using hb
   obtain ⟨q1,q2,q3,q4,q5⟩:=d9 hs hvn hi1;have htk:=Sx (p:=p) hi1;rw [← hK,q5,show ((nd N v i:Int),(bk N v i:Int)).1.toNat = nd N v i from Int.toNat_natCast _] at htk;have hxw:=hx (nd N v i) q1;refine af ?_;show DW _ _ _ _ _;refine ab (ac ?_);have dX:=And.intro dX (And.intro @Int.toNat_natCast @q5);refine ab (dR fun K hK=>?_);(repeat refine eV ?_);have dK:=@q5;refine aa (hK _ (au [1,2,4,5,6,8,10,14,15,16,21,22,23] ?_));clear hK K;have dX:=And.intro dX (And.intro @neRenumberSt9.eq_def (And.intro @q5 (And.intro @hxw @Int.toNat_natCast)));refine cm neRenumberSt9 (fun j r=>match j with | _=>True) fun K hK=>?_;(repeat refine dV ?_);have dK:=And.intro @q5 (And.intro @hxw (And.intro @jb @htk));refine ak (hK _ (au [1,2,4,5,6,8,14,15,16,21,22,23] ?_));clear hK K;refine dR fun K hK=>?_;(repeat refine eV ?_);have dK:=@bj;refine aa (hK _ ?_);clear hK K;show ∃ x,_ ∧ _ ∧ Weak _ _;refine ⟨i + 1,?_,?_,ay [1,2,4,5,6,8,14,15,16,21,22,23]⟩
   ·omega
   ·omega
  ·have hi2:i = (gl N.ends v).length:=by
    have:¬ i < (gl N.ends v).length:=by simpa using hb
    omega
   have hKf:K = rnR N p v:=by rw [hK,hi2,← Nf N p v,List.take_length]
   rw [hKf];refine an ?_;refine bd [1,2,4,5,6,8,14,15,16] (by simp only [ae,pZ,simprocAttr]; exact rfl) ?_;have dX:=And.intro dX (And.intro @neRenumberSt11.eq_def (And.intro @hxv (And.intro @ef (And.intro @jr (And.intro @hEl @Int.toNat_natCast)))));refine ab (cm neRenumberSt11 (fun j r=>match j with | _=>True) fun K hK=>?_);(repeat refine dV ?_);have dK:=And.intro @hxv (And.intro @Gz @hnE);refine ak (hK _ (au [1,2,4,5,6,14,15,16] ?_));clear hK K;have dX:=And.intro dX (And.intro @neRenumberSt12.eq_def (And.intro @hxv (And.intro @hIl @Int.toNat_natCast)));refine ab (cm neRenumberSt12 (fun j r=>match j with | _=>True) fun K hK=>?_);(repeat refine dV ?_);have dK:=And.intro @hxv (And.intro @lv @hnI);refine ak (hK _ (au [1,2,4,5,6,14,15,16] ?_));clear hK K;refine ab (dR fun K hK=>?_);(repeat refine eV ?_);refine aa (hK _ (wK [1,2,4,5,6,14,15,16,62] ?_));clear hK K;refine dI ?_ ?_<;>intro hb
   ·have hdp:0 < N.ids.length:=by simpa using hb
    have hidl:N.ids.length = N.ends.length:=by
     rcases hid with h | h
     ·rw [h] at hdp; cases hdp
     ·exact h
    have dX:=And.intro dX (And.intro @neRenumberSt14.eq_def (And.intro @hxv (And.intro @hDl @Int.toNat_natCast)));refine cm neRenumberSt14 (fun j r=>match j with | _=>True) fun K hK=>?_;(repeat refine dV ?_);have dK:=And.intro @hxv (And.intro @lv @hnD);refine ak (hK _ (au [1,2,4,5,14,15,16] ?_));clear hK K;refine dR fun K hK=>?_;(repeat refine eV ?_);have dK:=@bj;refine aa (hK _ ?_);clear hK K;show ∃ x,_ ∧ _ ∧ Weak _ _;refine ⟨v + 1,?_,?_,ay [1,2,4,5,14,15,16]⟩
    ·omega
    ·omega
   ·have hd0:N.ids = []:=List.length_eq_zero_iff.1 (by
     have:¬ 0 < N.ids.length:=by simpa using hb
     omega)
    have hDn:D = rnD N p (v + 1):=by
     rw [← hnD];have:D = []:=List.length_eq_zero_iff.1 (by rw [hDl,hd0]; rfl);rw [this]; rfl
    rw [hDn];refine af ?_;show DW _ _ _ _ _;refine dR fun K hK=>?_;(repeat refine eV ?_);have dK:=@bj;refine aa (hK _ ?_);clear hK K;show ∃ x,_ ∧ _ ∧ Weak _ _;refine ⟨v + 1,?_,?_,ay [1,2,4,5,14,15,16]⟩
    ·omega
    ·omega
 ·have hv2:v = N.ends.length:=by
   have:¬ v < N.ends.length:=by simpa using hb
   omega
  rw [hz hv2];refine an ?_;refine bd [4,5] (by simp only [ae,pZ,simprocAttr]; exact rfl) ?_;have dX:=And.intro dX (@netO.eq_1);refine ab (dR fun K hK=>?_);(repeat refine eV ?_);refine aa (hK _ (wK [4] ?_));clear hK K;exact ai (am Tryz.results128 (.one (.cell 4 _ _ _ _ rfl rfl aq rfl rfl (ao _))) (by decide) rfl)
end
section
open Go Go.RowKit
def nF (xs:List Int) (v:Nat):Nat:=(gi xs v).toNat
theorem ui {xs:List Int} {n:Nat} (h:xs.Perm (cp n)):xs.length = n ∧ sb n (nF xs) ∧ ∀ v,v < n → gi xs v = (nF xs v:Nat):=by
 have hl:xs.length = n:=by rw [h.length_eq,dl]
 have hnd:xs.Nodup:=h.nodup_iff.2 (t7 n)
 have hm:∀ v,v < n → 0 ≤ gi xs v ∧ gi xs v < n:=fun v hv=>by
  have:gi xs v ∈ xs:=by rw [bt (by omega)]; exact List.getElem_mem (by omega)
  exact ja.1 (h.mem_iff.1 this)
 refine ⟨hl,⟨fun v hv=>?_,fun v w hv hw he=>?_,fun w hw=>?_⟩,fun v hv=>?_⟩
 ·have:=hm v hv; unfold nF; omega
 ·have h1:=hm v hv;have h2:=hm w hw;have h3:gi xs v = gi xs w:=by unfold nF at he; omega
  rw [bt (by omega),bt (by omega)] at h3
  rcases Nat.lt_trichotomy v w with h4 | h4 | h4
  ·exact absurd h3 (List.pairwise_iff_getElem.1 hnd v w (by omega) (by omega) h4)
  ·exact h4
  ·exact absurd h3.symm (List.pairwise_iff_getElem.1 hnd w v (by omega) (by omega) h4)
 ·have h1:(w:Int) ∈ xs:=h.mem_iff.2 (ja.2 ⟨by omega,by omega⟩);obtain ⟨v,hv,he⟩:=List.getElem_of_mem h1;rw [← bt hv] at he;exact ⟨v,by omega,by unfold nF; omega⟩
 ·have:=hm v hv; unfold nF; omega
structure ExQ (n:Nat) (p:Nat → Nat) (q:List Int) (j:Nat):Prop where
 len:q.length = n
 two:∀ s,s < n → ∃ t:Nat,t < n ∧ gi q s = t ∧ gi q t = s
 rest:∀ t,t < n → 2 * j ≤ t → gi q (p t) = p t
section
variable {n:Nat} {p:Nat → Nat}
theorem ExQ.start (hp:sb n p):ExQ n p (cp n) 0:=by
 have h:∀ s,s < n → gi (cp n) s = (s:Int):=fun s hs=>by simp [gi,cp,hs]
 exact ⟨dl n,fun s hs=>⟨s,hs,h s hs,h s hs⟩,fun t ht _=>h _ (hp.low t ht)⟩
theorem ExQ.keep {q:List Int} {j:Nat} (h:ExQ n p q j):ExQ n p q (j + 1):=⟨h.len,h.two,fun t ht h2=>h.rest t ht (by omega)⟩
theorem ExQ.swap {q:List Int} {j:Nat} (hp:sb n p) (h:ExQ n p q j) (hj:2 * j + 1 < n):ExQ n p ((q.set (p (2 * j)) (p (2 * j + 1))).set (p (2 * j + 1)) (p (2 * j))) (j + 1):=by
 have l1:=hp.low (2 * j) (by omega);have l2:=hp.low (2 * j + 1) hj;have r1:=h.rest (2 * j) (by omega) (by omega);have r2:=h.rest (2 * j + 1) hj (by omega);have hl:=h.len;have ne:p (2 * j) ≠ p (2 * j + 1):=fun e=>by have:=hp.inj _ _ (by omega) hj e; omega
 have hg:∀ s,gi ((q.set (p (2 * j)) (p (2 * j + 1))).set (p (2 * j + 1)) (p (2 * j))) s = if s = p (2 * j + 1) then (p (2 * j):Int) else if s = p (2 * j) then (p (2 * j + 1):Int) else gi q s:=fun s=>by
  rw [gy,gy,List.length_set,hl]
  by_cases h1:s = p (2 * j + 1)
  ·rw [if_pos ⟨h1,l2⟩,if_pos h1]
  ·rw [if_neg (fun hh=>h1 hh.1),if_neg h1]
   by_cases h2:s = p (2 * j)
   ·rw [if_pos ⟨h2,l1⟩,if_pos h2]
   ·rw [if_neg (fun hh=>h2 hh.1),if_neg h2]
 refine ⟨by rw [List.length_set,List.length_set,hl],fun s hs=>?_,fun t ht h2=>?_⟩
 ·by_cases h1:s = p (2 * j + 1)
  ·refine ⟨p (2 * j),l1,by rw [hg,if_pos h1],?_⟩;rw [hg,if_neg ne,if_pos rfl,h1]
  ·by_cases h2:s = p (2 * j)
   ·refine ⟨p (2 * j + 1),l2,by rw [hg,if_neg h1,if_pos h2],?_⟩;rw [hg,if_pos rfl,h2]
   ·obtain ⟨t,ht,e1,e2⟩:=h.two s hs;refine ⟨t,ht,by rw [hg,if_neg h1,if_neg h2,e1],?_⟩;rw [hg,if_neg,if_neg,e2]
    ·intro h3; rw [h3,r1] at e2; exact h2 (by omega)
    ·intro h3; rw [h3,r2] at e2; exact h1 (by omega)
 ·have h3:=h.rest t ht (by omega);rw [hg,if_neg,if_neg,h3]
  ·intro e; have:=hp.inj _ _ ht (by omega) e; omega
  ·intro e; have:=hp.inj _ _ ht hj e; omega
theorem ExQ.permN {q:List Int} {j:Nat} (h:ExQ n p q j):q.length = n ∧ sb n (nF q) ∧ (∀ v,v < n → gi q v = (nF q v:Nat)) ∧ ∀ v,v < n → nF q (nF q v) = v:=by
 have hv:∀ s,s < n → nF q s < n ∧ gi q s = (nF q s:Nat) ∧ nF q (nF q s) = s:=fun s hs=>by
  obtain ⟨t,ht,e1,e2⟩:=h.two s hs;have h1:nF q s = t:=by unfold nF; rw [e1]; exact Int.toNat_natCast t
  have h2:nF q t = s:=by unfold nF; rw [e2]; exact Int.toNat_natCast s
  rw [h1];exact ⟨ht,e1,h2⟩
 exact ⟨h.len,⟨fun v hv2=>(hv v hv2).1,fun v w h1 h2 e=>by rw [← (hv v h1).2.2,e,(hv w h2).2.2],fun w hw=>⟨nF q w,(hv w hw).1,(hv w hw).2.2⟩⟩,fun v h1=>(hv v h1).2.1,fun v h1=>(hv v h1).2.2⟩
end
structure ShL (N:Net) (k:Nat) (L:List (List Int)) (x:Nat):Prop where
 len:L.length = x
 row:∀ y,y < x → (lg L y).length = k ∧ sb k (nF (lg L y)) ∧ (∀ s,s < k → gi (lg L y) s = (nF (lg L y) s:Nat)) ∧ (eA N y = eB N y → eI N y = eJ N y → ∀ s,s < k → nF (lg L y) (nF (lg L y) s) = s)
theorem ShL.nil (N:Net) (k:Nat):ShL N k [] 0:=⟨rfl,fun y hy=>absurd hy (Nat.not_lt_zero y)⟩
theorem ShL.snoc {N:Net} {k:Nat} {L:List (List Int)} {x:Nat} (h:ShL N k L x) {q:List Int} (hq:q.length = k ∧ sb k (nF q) ∧ (∀ s,s < k → gi q s = (nF q s:Nat)) ∧ (eA N x = eB N x → eI N x = eJ N x → ∀ s,s < k → nF q (nF q s) = s)):ShL N k (L ++ [q]) (x + 1):=by
 have hl:=h.len;refine ⟨by rw [List.length_append,hl]; rfl,fun y hy=>?_⟩
 by_cases hyx:y = x
 ·subst hyx;have:lg (L ++ [q]) y = q:=by simp [lg,← hl]
  rw [this]; exact hq
 ·have:lg (L ++ [q]) y = lg L y:=by
   unfold lg;rw [List.getD_eq_getElem?_getD,List.getD_eq_getElem?_getD,List.getElem?_append_left (by omega)]
  rw [this]; exact h.row y (by omega)
theorem ShL.sheets {N:Net} {k:Nat} {L:List (List Int)} (h:ShL N k L (edL N N.ends.length).length):zd N k (fun x s=>nF (lg L x) s) :=
 ⟨fun x s hx hs=>(h.row x hx).2.1.low s hs,fun x s t hx hs ht e=>(h.row x hx).2.1.inj s t hs ht e,fun x t hx ht=>(h.row x hx).2.1.onto t ht,fun x s hx hs e1 e2=>(h.row x hx).2.2.2 e1 e2 s hs⟩
end
section
open Go Go.RowKit
def liftSt6:Nat → Stat
 | 0=>⟨[10],[],[],[28],[],[]⟩
 | 1=>⟨[28],[],[],[29],[],[]⟩
 | 2=>⟨[29],[],[],[30],[],[]⟩
 | 3=>⟨[10],[],[],[31],[],[]⟩
 | 4=>⟨[31],[],[],[32],[],[]⟩
 | 5=>⟨[32],[],[],[33],[],[]⟩
 | 6=>⟨[30,33],[],[],[34],[],[]⟩
 | 7=>⟨[34],[],[],[35],[],[]⟩
 | 8=>⟨[10,35],[],[],[36],[],[]⟩
 | 9=>⟨[36,35],[],[],[37],[],[]⟩
 | 10=>⟨[37,35],[],[],[38],[],[]⟩
 | 11=>⟨[10,35],[],[],[39],[],[]⟩
 | 12=>⟨[39,35],[],[],[40],[],[]⟩
 | 13=>⟨[40,35],[],[],[41],[],[]⟩
 | 14=>⟨[38,41,35],[],[],[42],[],[]⟩
 | 15=>⟨[35,42],[],[],[43],[],[]⟩
 | _=>⟨[],[],[],[],[],[]⟩
def liftSt17:Nat → Stat
 | 0=>⟨[12],[],[],[64],[],[]⟩
 | 1=>⟨[11],[],[],[65],[],[]⟩
 | 2=>⟨[14],[],[],[66],[],[]⟩
 | 3=>⟨[65,66],[(11,1)],[],[67],[],[]⟩
 | 4=>⟨[67],[(11,2)],[],[68],[],[]⟩
 | 5=>⟨[11],[],[],[69],[],[]⟩
 | 6=>⟨[14],[],[],[70],[],[]⟩
 | 7=>⟨[70],[],[],[71],[],[]⟩
 | 8=>⟨[69,71],[(11,1)],[],[72],[],[]⟩
 | 9=>⟨[72],[(11,2)],[],[73],[],[]⟩
 | 10=>⟨[64,68],[(12,1)],[],[74],[],[]⟩
 | 11=>⟨[74,73],[(12,2)],[],[],[(12,2)],[]⟩
 | _=>⟨[],[],[],[],[],[]⟩
def liftSt18:Nat → Stat
 | 0=>⟨[12],[],[],[75],[],[]⟩
 | 1=>⟨[11],[],[],[76],[],[]⟩
 | 2=>⟨[14],[],[],[77],[],[]⟩
 | 3=>⟨[77],[],[],[78],[],[]⟩
 | 4=>⟨[76,78],[(11,1)],[],[79],[],[]⟩
 | 5=>⟨[79],[(11,2)],[],[80],[],[]⟩
 | 6=>⟨[11],[],[],[81],[],[]⟩
 | 7=>⟨[14],[],[],[82],[],[]⟩
 | 8=>⟨[81,82],[(11,1)],[],[83],[],[]⟩
 | 9=>⟨[83],[(11,2)],[],[84],[],[]⟩
 | 10=>⟨[75,80],[(12,1)],[],[85],[],[]⟩
 | 11=>⟨[85,84],[(12,2)],[],[],[(12,2)],[]⟩
 | _=>⟨[],[],[],[],[],[]⟩
def shN (k y:Nat):List Int:=(List.range y).map fun x=>((x / k:Nat):Int)
theorem Bn (t:TypeId) (L:List (List Int)) (l:List Int):((L.map (lsC t) ++ [[C.hole]]).modify L.length fun row=>row.modify 0 fun _=>C.sl true t 1 (l.map iC)) = (L ++ [l]).map (lsC t):=by
 have h:∀ (A:List (List C)) (r:List C) (g:List C → List C),(A ++ [r]).modify A.length g = A ++ [g r]:=fun A r g=>by
  apply List.ext_getElem?;intro i;rw [List.getElem?_modify]
  rcases Nat.lt_trichotomy i A.length with h1 | h1 | h1
  ·rw [List.getElem?_append_left h1,List.getElem?_append_left h1];simp [show A.length ≠ i by omega]
  ·subst h1; simp
  ·have e1:(A ++ [r])[i]? = none:=List.getElem?_eq_none (by rw [List.length_append]; show A.length + 1 ≤ i; omega);have e2:(A ++ [g r])[i]? = none:=List.getElem?_eq_none (by rw [List.length_append]; show A.length + 1 ≤ i; omega);rw [e1,e2]; rfl
 have h2:=h (L.map (lsC t)) [C.hole] (fun row=>row.modify 0 fun _=>C.sl true t 1 (l.map iC));rw [List.length_map] at h2;rw [h2];simp [lsC]
theorem Na (k y:Nat):(shN k y).length = y:=by simp [shN]
theorem Sn (k y:Nat):shN k (y + 1) = shN k y ++ [((y / k:Nat):Int)]:=by simp [shN,List.range_succ]
def idT (k s:Nat):List Int:=(List.range k).map fun x=>if x < s then (x:Int) else 0
theorem Og (k s:Nat):(idT k s).length = k:=by simp [idT]
theorem Ug (k:Nat):List.replicate k (0:Int) = idT k 0:=by
 unfold idT;apply List.ext_getElem
 ·simp
 ·intro i h1 h2; simp
theorem Xf {k s:Nat} (h:s < k):(idT k s).set s (s:Int) = idT k (s + 1):=yd (f:=fun x=>((x:Nat):Int)) h
theorem Xg (k:Nat):idT k k = cp k:=by
 unfold idT cp;apply List.ext_getElem
 ·simp
 ·intro i h1 h2;simp at h1;simp [h1]
theorem Lo {N:Net} {m d k M:Nat} {P:Nat → Nat → Nat} (h:Drawn m d N) (hk:0 < k) (hP:zd N k P) (hM:N.ends.length * k ≤ M):Drawn M d (Gq N k P):=by
 have h0:=h.pos;have hl:(Gq N k P).ends.length = N.ends.length * k:=mq _;refine ⟨?_,by rw [hl]; exact hM,W6 h.sym hP,fun a=>?_,Nat.zero_le _,?_⟩
 ·rw [hl]; exact Nat.mul_pos h0 hk
 ·unfold dg
  by_cases ha:a < N.ends.length * k
  ·have h1:a / k < N.ends.length:=Nat.div_lt_of_lt_mul (by rw [Nat.mul_comm]; exact ha);have h2:a % k < k:=Nat.mod_lt _ hk;have h3:a = a / k * k + a % k:=by rw [Nat.mul_comm]; exact (Nat.div_add_mod a k).symm
   rw [h3];show (gl (lfE N k P _) _).length ≤ d;rw [ph h1 h2];exact h.deg (a / k)
  ·have h9:gl (Gq N k P).ends a = []:=by
    unfold gl;rw [List.getD_eq_getElem?_getD,List.getElem?_eq_none (by rw [hl]; omega)]; rfl
   rw [h9]; exact Nat.zero_le _
 ·rw [hl]; exact Od N k _
def zBBs91:=PLift.up (And.intro aq (And.intro @netO.eq_1 (And.intro @cf (And.intro bn (And.intro b7 (And.intro cd (And.intro ch (And.intro bb (And.intro ee (And.intro @if_pos.{1} (And.intro @cx (And.intro @cw (And.intro @bo (And.intro @a7 (And.intro @ba (And.intro @df (And.intro @ek (And.intro @netZ.eq_1 (And.intro M7 (And.intro qt (And.intro M8 @trivial)))))))))))))))))))))
theorem ja3:type_of% zBBs91.down:=zBBs91.down
set_option maxRecDepth 8000 in
set_option maxHeartbeats 0 in
theorem T1 (bs:List Int) (p:Nat) (s:Int) (f:NF) (N:Net) (k B:Nat) (hby:dp bs) (hp:p ≤ B) (hB:B + 1000000 ≤ 4611686018427387900) (hN:Drawn 12 400 N) (hk0:0 < k) (hk:k ≤ 3):dr Tryz.prog 126 [.io 69 (curC bs p s),.agg (be f N),.c (.p (.int .i64 k))] (CurO bs (B + 1000000) fun rs=>∃ (M:Net) (ps:List Int),rs = [.own true (netO M),.own false [.sl true 3 1 (ps.map iC)]] ∧ Drawn 36 400 M ∧ M.ids = [] ∧ ps.length = M.ends.length):=by
 have hn0:=hN.pos;have hn:=hN.len;have hs:=hN.sym;have hdg:∀ v,(gl N.ends v).length ≤ 1000:=fun v=>by have:=hN.deg v; unfold dg at this; omega
 have hdg4:∀ v,(gl N.ends v).length ≤ 400:=fun v=>hN.deg v
 have hkn:N.ends.length * k ≤ 36:=by
  have h1:=Nat.mul_le_mul hn hk;omega
 have hEb:(edL N N.ends.length).length ≤ 4800:=by
  have h1:=y5 N hdg4 N.ends.length;have h2:=Nat.mul_le_mul_right 400 hn;omega
 have heL:jh N N.ends.length = (edL N N.ends.length).map qL:=vh N _;obtain ⟨EE,hEE⟩:∃ EE,EE = jh N N.ends.length:=⟨_,rfl⟩;obtain ⟨X,hX⟩:∃ X,X = (edL N N.ends.length).length:=⟨_,rfl⟩;have hEEl:EE.length = X:=by rw [hEE,heL,List.length_map,hX]
 have hEEg:∀ x,x < X → gi (lg EE x) 0 = (eA N x:Nat) ∧ gi (lg EE x) 1 = (eI N x:Nat) ∧ gi (lg EE x) 2 = (eB N x:Nat) ∧ gi (lg EE x) 3 = (eJ N x:Nat) ∧ (lg EE x).length = 4:=fun x hx=>by
  obtain ⟨-,-,-,-,-,-,-,h8⟩:=e9 hs (x:=x) (by rw [← hX]; exact hx)
  have h9:lg EE x = qL (gq (edL N N.ends.length) x):=by
   rw [hEE,heL,Cm (by rw [List.length_map,← hX]; exact hx),List.getElem_map,Ct (by rw [← hX]; exact hx)]
  rw [h9,h8];exact ⟨rfl,rfl,rfl,rfl,rfl⟩
 rw [← hX] at hEb;refine fz Tryz.func126 rfl (by rw [Tryz.ntmps126]; simp) fun w0=>?_;rw [Tryz.ntmps126];have dX:=ja3;simp only [jt,bf,Arg.av,curC,be,b9,ints,ends];refine ab (dR fun K hK=>?_);(repeat refine eV ?_);refine aa (hK _ (wK [0,2,4,6,113] ?_));clear hK K;refine ab (dR fun K hK=>?_);(repeat refine eV ?_);refine aa (hK _ (wK [0,2,4,6,8,113] ?_));clear hK K;refine ab ?_;refine ab (dR fun K hK=>?_);(repeat refine eV ?_);have dX:=And.intro dX ((Eq.symm hEE));refine cL rfl ⟨rfl,_,rfl⟩ (by omega) (by first | exact Tr) (Ex ⟨false,f.t1,f.o2,f.t2,false,f.t3,false,f.t4⟩ N (by omega) (fun v _=>hdg v)) ?_;rintro _ rfl;(repeat refine eV ?_);have dK:=@hEEl;refine aa (hK _ (au [0,2,4,6,8,19,20,21,113] ?_));clear hK K;refine C4 19 [0,2,4,6,8,19,20,21,113] rfl rfl (by simp only [ae,pZ,simprocAttr,Ii,En,wj,wh,ny]; exact rfl) ?_;refine pm 8 26 1 (by decide) (by simp only [ae,pZ,simprocAttr]) [0,2,4,6,8,19,20,21,113] (by simp only [ae,pZ,simprocAttr]; exact rfl) ?_;refine ac ?_;refine ax (X:=List (List Int) × Nat × Int) (fun x=>x.1.length ≤ X ∧ ShL N k x.1 x.1.length ∧ x.2.1 ≤ B + 20 * x.1.length) (fun x=>[(21,.c (.p (.int .i64 x.1.length)))]) (fun x=>[((8,0),⟨none,[.sl true 26 1 (x.1.map (lsC 3))]⟩),((113,0),⟨some 69,[.sl false 5 1 (bs.map bC),.p (.int .i64 x.2.1),.p (.int .u64 x.2.2)]⟩)]) (fun x=>X - x.1.length) ([],p,s) ⟨Nat.zero_le _,ShL.nil N k,by dsimp only [List.length_nil]; omega⟩ (by first | rfl | (simp only [ae,pZ,simprocAttr,Int.natCast_zero] <;> rfl)) ?_;rintro ⟨L,p0,s0⟩ ⟨hLx,hS,hp0⟩;intro E hE;simp only [ae,pZ,simprocAttr] at hE;subst hE;dsimp only at hLx hS hp0 ⊢;obtain ⟨x,hx⟩:∃ x,x = L.length:=⟨_,rfl⟩;have hLl:∀ q,(L ++ [q]).length = x + 1:=fun q=>by rw [List.length_append,hx]; rfl
 rw [← hx] at hLx hS hp0 ⊢;refine ab (dR fun K hK=>?_);(repeat refine eV ?_);refine aa (hK _ (wK [0,2,4,6,8,19,20,21,22,113] ?_));clear hK K;refine ab (dI (fun hb=>?_) (fun hb=>?_))
 ·have hx1:x < X:=by simpa using hb
  obtain ⟨g0,g1,g2,g3,g4⟩:=hEEg x hx1;refine af ?_;show DW _ _ _ _ _;refine ab (ac ?_);have dX:=And.intro dX (And.intro @hEEl @Int.toNat_natCast);refine ab (dR fun K hK=>?_);(repeat refine eV ?_);have dK:=@hEEl;refine aa (hK _ (au [0,2,4,6,8,10,19,20,21,113] ?_));clear hK K;refine ab (dR fun K hK=>?_);(repeat refine eV ?_);refine kg rfl ⟨rfl,_,rfl⟩ (by omega) (by first | exact Ey) (B5 bs p0 s0 k _ hby hp0 (by omega) (by omega)) ?_;rintro _ ⟨p1,s1,_,rfl,hp1,l1,rfl,hl1⟩;refine ioF ?_;(repeat refine eV ?_);obtain ⟨hll,hlp,hlg⟩:=ui hl1;refine aa (hK _ (wK [0,2,4,6,8,10,11,19,20,21,113] ?_));clear hK K;refine ab ?_
  by_cases hst:eA N x = eB N x ∧ eI N x = eJ N x
  ·obtain ⟨hst1,hst2⟩:=hst;have dX:=And.intro dX (And.intro @liftSt6.eq_def (And.intro @g0 (And.intro @g1 (And.intro @g2 (And.intro @g3 (And.intro @g4 (And.intro @hst1 (And.intro @hst2 (And.intro @a7 (And.intro @ba (And.intro @nf (And.intro @nc @beq_self_eq_true.{0}))))))))))));refine ab (cm liftSt6 (fun j r=>match j with | _=>True) fun K hK=>?_);(repeat refine dV ?_);have dK:=And.intro @g0 (And.intro @g1 (And.intro @g2 (And.intro @g3 (And.intro @hst1 (And.intro @hst2 (And.intro @a7 (And.intro @ba (And.intro @nf (And.intro @nc @beq_self_eq_true.{0})))))))));refine ak (hK _ (au [0,2,4,6,8,11,19,20,21,43,113] ?_));clear hK K;refine dI ?_ ?_<;>intro hb
   ·have hzr:fc [.int .i64 0] k = (idT k 0).map iC:=by rw [A9,Ug]
    have hil:=Og k 0;have dX:=And.intro dX (@hzr);refine ab (dR fun K hK=>?_);(repeat refine eV ?_);have dK:=@hzr;refine aa (hK _ (au [0,2,4,6,8,11,12,19,20,21,113] ?_));clear hK K;refine ab ?_;have dX:=And.intro dX (@hil);refine ab (dR fun K hK=>?_);(repeat refine eV ?_);have dK:=@hil;refine aa (hK _ (au [0,2,4,6,8,11,12,19,20,21,47,48,113] ?_));clear hK K;refine ac ?_;refine ax (X:=Nat) (fun j=>j ≤ k) (fun j=>[(48,.c (.p (.int .i64 j)))]) (fun j=>[((12,0),⟨none,[.sl true 3 1 ((idT k j).map iC)]⟩)]) (fun j=>k - j) 0 (Nat.zero_le _) (by first | rfl | (simp only [ae,pZ,simprocAttr,Int.natCast_zero] <;> rfl)) ?_;rintro j hj;intro E hE;simp only [ae,pZ,simprocAttr] at hE;subst hE;have hil2:=Og k j;refine ab (dR fun K hK=>?_);(repeat refine eV ?_);refine aa (hK _ (wK [0,2,4,6,8,11,12,19,20,21,47,48,49,113] ?_));clear hK K;refine ab (dI (fun hb=>?_) (fun hb=>?_))
    ·have hj1:j < k:=by simpa using hb
     have hset:=Xf hj1;refine af ?_;show DW _ _ _ _ _;refine ab (ac ?_);refine ab (dR fun K hK=>?_);(repeat refine eV ?_);refine aa (hK _ (wK [0,2,4,6,8,11,12,13,19,20,21,47,48,113] ?_));clear hK K;have dX:=And.intro dX (And.intro @hil2 @Int.toNat_natCast);refine dR fun K hK=>?_;(repeat refine eV ?_);have dK:=And.intro @lv @hset;refine aa (hK _ (au [0,2,4,6,8,11,12,19,20,21,47,48,113] ?_));clear hK K;refine dR fun K hK=>?_;(repeat refine eV ?_);have dK:=@bj;refine aa (hK _ ?_);clear hK K;show ∃ x,_ ∧ _ ∧ Weak _ _;refine ⟨j + 1,?_,?_,ay [0,2,4,6,8,11,12,19,20,21,47,48,113]⟩
     ·omega
     ·omega
    ·have hj2:j = k:=by
      have:¬ j < k:=by simpa using hb
      omega
     have hu:idT k j = cp k:=by rw [hj2,Xg]
     rw [hu];refine an ?_;refine bd [0,2,4,6,8,11,12,19,20,21,113] (by simp only [ae,pZ,simprocAttr]; exact rfl) ?_;refine ab ?_;refine ab (dR fun K hK=>?_);(repeat refine eV ?_);refine aa (hK _ (wK [0,2,4,6,8,11,12,14,19,20,21,113] ?_));clear hK K;refine ac ?_;refine ax (X:=List Int × Nat × Nat × Int) (fun y=>ExQ k (nF l1) y.1 y.2.1 ∧ y.2.1 ≤ 3 ∧ y.2.2.1 ≤ B + 20 * x + 6 + 2 * y.2.1) (fun y=>[(14,.c (.p (.int .i64 ((2 * y.2.1:Nat):Int))))]) (fun y=>[((12,0),⟨none,[.sl true 3 1 (y.1.map iC)]⟩),((113,0),⟨some 69,[.sl false 5 1 (bs.map bC),.p (.int .i64 y.2.2.1),.p (.int .u64 y.2.2.2)]⟩)]) (fun y=>4 - y.2.1) (cp k,0,p1,s1) ⟨ExQ.start hlp,Nat.zero_le _,by dsimp only; omega⟩ (by first | rfl | (simp only [ae,pZ,simprocAttr,Int.natCast_zero] <;> rfl)) ?_;rintro ⟨q,j,p2,s2⟩ ⟨hQ,hj3,hp2⟩;intro E hE;simp only [ae,pZ,simprocAttr] at hE;subst hE;dsimp only at hQ hj3 hp2 ⊢;have hql:=hQ.len;refine ab ?_;refine ab (dR fun K hK=>?_);(repeat refine eV ?_);refine aa (hK _ (wK [0,2,4,6,8,11,12,14,19,20,21,59,113] ?_));clear hK K;refine dI ?_ ?_<;>intro hb
     ·have hj4:2 * j + 1 < k:=by
       have h:(((2 * j:Nat):Int) + 1) < (k:Int):=by simpa using hb
       omega
      have hlow1:=hlp.low (2 * j) (by omega);have hlow2:=hlp.low (2 * j + 1) hj4;have hg1:=hlg (2 * j) (by omega);have hg2:=hlg (2 * j + 1) hj4;obtain ⟨a,ha⟩:∃ a,a = 2 * j:=⟨_,rfl⟩;have ha1:(a:Int) + 1 = ((a + 1:Nat):Int):=rfl;have ha2:(a:Int) + 2 = ((2 * (j + 1):Nat):Int):=by omega
      have hsw:=hQ.swap hlp hj4;rw [← ha] at hlow1 hlow2 hg1 hg2 hsw ⊢;obtain ⟨u1,hu1⟩:∃ u,u = nF l1 a:=⟨_,rfl⟩;obtain ⟨u2,hu2⟩:∃ u,u = nF l1 (a + 1):=⟨_,rfl⟩;rw [← hu1] at hlow1 hg1 hsw;rw [← hu2] at hlow2 hg2 hsw;refine af ?_;show DW _ _ _ _ _;refine ab (ac ?_);refine ab (dR fun K hK=>?_);(repeat refine eV ?_);refine kg rfl ⟨rfl,_,rfl⟩ (by omega) (by first | exact tr) (tq bs p2 s2 2 _ hby hp2 (by omega)) ?_;rintro _ ⟨p3,s3,_,rfl,hp3,b3,rfl⟩;refine ioF ?_;(repeat refine eV ?_);refine aa (hK _ (wK [0,2,4,6,8,11,12,14,19,20,21,63,113] ?_));clear hK K;refine dI ?_ ?_<;>intro hb
      ·have hql2:(q.set u1 (u2:Int)).length = k:=by rw [List.length_set,hql]
       have dX:=And.intro dX (And.intro @liftSt17.eq_def (And.intro @ha1 (And.intro @hg1 (And.intro @hg2 (And.intro @hll (And.intro @hql @Int.toNat_natCast))))));refine ab (cm liftSt17 (fun j r=>match j with | _=>True) fun K hK=>?_);(repeat refine dV ?_);have dK:=And.intro @ha1 (And.intro @hg1 (And.intro @hg2 @lv));refine ak (hK _ (au [0,2,4,6,8,11,12,14,19,20,21,113] ?_));clear hK K;have dX:=And.intro dX (And.intro @liftSt18.eq_def (And.intro @ha1 (And.intro @hg1 (And.intro @hg2 (And.intro @hll (And.intro @hql2 @Int.toNat_natCast))))));refine cm liftSt18 (fun j r=>match j with | _=>True) fun K hK=>?_;(repeat refine dV ?_);have dK:=And.intro @ha1 (And.intro @hg1 (And.intro @hg2 @lv));refine ak (hK _ (au [0,2,4,6,8,11,12,14,19,20,21,113] ?_));clear hK K;refine dR fun K hK=>?_;(repeat refine eV ?_);have dK:=And.intro @bj @ha2;refine aa (hK _ ?_);clear hK K;show ∃ x,_ ∧ _ ∧ Weak _ _;refine ⟨((q.set u1 (u2:Int)).set u2 (u1:Int),j + 1,p3,s3),?_,?_,ay [0,2,4,6,8,11,12,14,19,20,21,113]⟩
       ·exact ⟨hsw,by dsimp only; omega,by dsimp only; omega⟩
       ·dsimp only; omega
      ·refine af ?_;show DW _ _ _ _ _;refine dR fun K hK=>?_;(repeat refine eV ?_);have dK:=And.intro @bj @ha2;refine aa (hK _ ?_);clear hK K;show ∃ x,_ ∧ _ ∧ Weak _ _;refine ⟨(q,j + 1,p3,s3),?_,?_,ay [0,2,4,6,8,11,12,14,19,20,21,113]⟩
       ·exact ⟨hQ.keep,by dsimp only; omega,by dsimp only; omega⟩
       ·dsimp only; omega
     ·obtain ⟨e1,e2,e3,e4⟩:=hQ.permN;refine an ?_;refine bd [0,2,4,6,8,11,12,19,20,21,113] (by simp only [ae,pZ,simprocAttr]; exact rfl) ?_;refine dR fun K hK=>?_;(repeat refine eV ?_);refine aa (hK _ (wK [0,2,4,6,8,11,19,20,21,113] ?_));clear hK K;refine dR fun K hK=>?_;(repeat refine eV ?_);have dK:=@Bn;refine aa (hK _ (au [0,2,4,6,8,19,20,21,113] ?_));clear hK K;refine dR fun K hK=>?_;(repeat refine eV ?_);have dK:=And.intro @bj @hLl;refine aa (hK _ ?_);clear hK K;show ∃ x,_ ∧ _ ∧ Weak _ _;refine ⟨(L ++ [q],p2,s2),?_,?_,ay [0,2,4,6,8,19,20,21,113]⟩
      ·exact ⟨by rw [hLl]; omega,by rw [hLl]; exact hS.snoc ⟨e1,e2,e3,fun _ _=>e4⟩,by rw [hLl]; dsimp only; omega⟩
      ·rw [hLl]; omega
   ·cases hb
  ·have hcd:(((eA N x:Int) == (eB N x:Int)) && ((eI N x:Int) == (eJ N x:Int))) = false:=by
    rw [Bool.eq_false_iff];intro h;rw [Bool.and_eq_true,beq_iff_eq,beq_iff_eq] at h;exact hst ⟨by omega,by omega⟩
   by_cases hst1:eA N x = eB N x
   ·have hst2:((eI N x:Int) == (eJ N x:Int)) = false:=by
     rw [beq_eq_false_iff_ne];exact fun h=>hst ⟨hst1,by omega⟩
    have dX:=And.intro dX (And.intro @liftSt6.eq_def (And.intro @g0 (And.intro @g1 (And.intro @g2 (And.intro @g3 (And.intro @g4 (And.intro @hst1 (And.intro @hst2 (And.intro @a7 (And.intro @ba (And.intro @nf (And.intro @nc @beq_self_eq_true.{0}))))))))))));refine ab (cm liftSt6 (fun j r=>match j with | _=>True) fun K hK=>?_);(repeat refine dV ?_);have dK:=And.intro @g0 (And.intro @g1 (And.intro @g2 (And.intro @g3 (And.intro @hst1 (And.intro @hst2 (And.intro @a7 (And.intro @ba (And.intro @nf (And.intro @nc @beq_self_eq_true.{0})))))))));refine ak (hK _ (au [0,2,4,6,8,11,19,20,21,43,113] ?_));clear hK K;refine dI ?_ ?_<;>intro hb
    ·cases hb
    ·refine af ?_;show DW _ _ _ _ _;refine dR fun K hK=>?_;(repeat refine eV ?_);have dK:=@Bn;refine aa (hK _ (au [0,2,4,6,8,19,20,21,113] ?_));clear hK K;refine dR fun K hK=>?_;(repeat refine eV ?_);have dK:=And.intro @bj @hLl;refine aa (hK _ ?_);clear hK K;show ∃ x,_ ∧ _ ∧ Weak _ _;refine ⟨(L ++ [l1],p1,s1),?_,?_,ay [0,2,4,6,8,19,20,21,113]⟩
     ·exact ⟨by rw [hLl]; omega,by rw [hLl]; exact hS.snoc ⟨hll,hlp,hlg,fun h1 h2=>absurd ⟨h1,h2⟩ hst⟩,by rw [hLl]; dsimp only; omega⟩
     ·rw [hLl]; omega
   ·have hst2:((eA N x:Int) == (eB N x:Int)) = false:=by
     rw [beq_eq_false_iff_ne];exact fun h=>hst1 (by omega)
    have dX:=And.intro dX (And.intro @liftSt6.eq_def (And.intro @g0 (And.intro @g1 (And.intro @g2 (And.intro @g3 (And.intro @g4 (And.intro @hst2 (And.intro @a7 (And.intro @ba (And.intro @nf @nc))))))))));refine ab (cm liftSt6 (fun j r=>match j with | _=>True) fun K hK=>?_);(repeat refine dV ?_);have dK:=And.intro @g0 (And.intro @g1 (And.intro @g2 (And.intro @g3 (And.intro @hst2 (And.intro @a7 (And.intro @ba (And.intro @nf @nc)))))));refine ak (hK _ (au [0,2,4,6,8,11,19,20,21,43,113] ?_));clear hK K;refine dI ?_ ?_<;>intro hb
    ·cases hb
    ·refine af ?_;show DW _ _ _ _ _;refine dR fun K hK=>?_;(repeat refine eV ?_);have dK:=@Bn;refine aa (hK _ (au [0,2,4,6,8,19,20,21,113] ?_));clear hK K;refine dR fun K hK=>?_;(repeat refine eV ?_);have dK:=And.intro @bj @hLl;refine aa (hK _ ?_);clear hK K;show ∃ x,_ ∧ _ ∧ Weak _ _;refine ⟨(L ++ [l1],p1,s1),?_,?_,ay [0,2,4,6,8,19,20,21,113]⟩
     ·exact ⟨by rw [hLl]; omega,by rw [hLl]; exact hS.snoc ⟨hll,hlp,hlg,fun h1 h2=>absurd ⟨h1,h2⟩ hst⟩,by rw [hLl]; dsimp only; omega⟩
     ·rw [hLl]; omega
 ·have hx2:x = X:=by
   have:¬ x < X:=by simpa using hb
   omega
  have hSX:ShL N k L (edL N N.ends.length).length:=by rw [← hX,← hx2]; exact hS
  have hPP:=hSX.sheets;refine an ?_;refine bd [2,4,6,8,113] (by simp only [ae,pZ,simprocAttr]; exact rfl) ?_;refine ab (dR fun K hK=>?_);(repeat refine eV ?_);refine aa (hK _ (wK [2,4,6,8,15,113] ?_));clear hK K;refine ab ?_;refine ab (dR fun K hK=>?_);(repeat refine eV ?_);refine aa (hK _ (wK [2,4,6,8,15,94,95,113] ?_));clear hK K;refine ac ?_;refine pm 15 3 1 (by decide) (by simp only [ae,pZ,simprocAttr]) [2,4,6,8,15,94,95,113] (by simp only [ae,pZ,simprocAttr]; exact rfl) ?_;have h0k:0 * k = 0:=Nat.zero_mul k;refine ax (X:=Nat) (fun v=>v ≤ N.ends.length) (fun v=>[(95,.c (.p (.int .i64 v)))]) (fun v=>[((15,0),⟨none,[.sl true 3 1 ((shN k (v * k)).map iC)]⟩)]) (fun v=>N.ends.length - v) 0 (Nat.zero_le _) (by first | rfl | (simp only [ae,pZ,simprocAttr,Int.natCast_zero,h0k] <;> rfl)) ?_;rintro v hv;intro E hE;simp only [ae,pZ,simprocAttr] at hE;subst hE;have hv3:v * k ≤ N.ends.length * k:=Nat.mul_le_mul_right k hv;refine ab (dR fun K hK=>?_);(repeat refine eV ?_);refine aa (hK _ (wK [2,4,6,8,15,94,95,96,113] ?_));clear hK K;refine ab (dI (fun hb=>?_) (fun hb=>?_))
  ·have hvn:v < N.ends.length:=by simpa using hb
   have hvk:(v + 1) * k = v * k + k:=by rw [Nat.add_mul,Nat.one_mul]
   have hvk2:v * k + k ≤ N.ends.length * k:=by rw [← hvk]; exact Nat.mul_le_mul_right k hvn
   obtain ⟨q,hq⟩:∃ q,q = v * k:=⟨_,rfl⟩;rw [← hq] at hvk hvk2 hv3 ⊢;refine af ?_;show DW _ _ _ _ _;refine ab (ac ?_);refine ab (dR fun K hK=>?_);(repeat refine eV ?_);refine aa (hK _ (wK [2,4,6,8,15,16,94,95,113] ?_));clear hK K;refine ab (dR fun K hK=>?_);(repeat refine eV ?_);refine aa (hK _ (wK [2,4,6,8,15,16,17,94,95,113] ?_));clear hK K;refine ac ?_;refine ax (X:=Nat) (fun j=>j ≤ k) (fun j=>[(17,.c (.p (.int .i64 j)))]) (fun j=>[((15,0),⟨none,[.sl true 3 1 ((shN k (q + j)).map iC)]⟩)]) (fun j=>k - j) 0 (Nat.zero_le _) (by first | rfl | (simp only [ae,pZ,simprocAttr,Int.natCast_zero,Nat.add_zero] <;> rfl)) ?_;rintro j hj;intro E hE;simp only [ae,pZ,simprocAttr] at hE;subst hE;have hshl:=Na k (q + j);have hend:j = k → q + j = (v + 1) * k:=fun h=>by rw [hvk]; omega
   refine ab ?_;refine ab (dR fun K hK=>?_);(repeat refine eV ?_);refine aa (hK _ (wK [2,4,6,8,15,16,17,94,95,100,113] ?_));clear hK K;refine dI ?_ ?_<;>intro hb
   ·have hj1:j < k:=by simpa using hb
    have hyd:(q + j) / k = v:=by
     rw [hq,Nat.mul_comm,Nat.mul_add_div (by omega),Nat.div_eq_of_lt hj1,Nat.add_zero]
    have hsn:=Sn k (q + j);rw [hyd] at hsn;have hjj:q + j + 1 = q + (j + 1):=rfl;refine af ?_;show DW _ _ _ _ _;refine ab (ac ?_);have dX:=And.intro dX (@hshl);refine dR fun K hK=>?_;(repeat refine eV ?_);have dK:=And.intro @il (And.intro (Eq.symm hsn) @hjj);refine aa (hK _ (au [2,4,6,8,15,16,17,94,95,113] ?_));clear hK K;refine dR fun K hK=>?_;(repeat refine eV ?_);have dK:=@bj;refine aa (hK _ ?_);clear hK K;show ∃ x,_ ∧ _ ∧ Weak _ _;refine ⟨j + 1,?_,?_,ay [2,4,6,8,15,16,17,94,95,113]⟩
    ·omega
    ·omega
   ·have hj2:j = k:=by
     have:¬ j < k:=by simpa using hb
     omega
    rw [hend hj2];refine an ?_;refine bd [2,4,6,8,15,94,95,113] (by simp only [ae,pZ,simprocAttr]; exact rfl) ?_;refine dR fun K hK=>?_;(repeat refine eV ?_);have dK:=@bj;refine aa (hK _ ?_);clear hK K;show ∃ x,_ ∧ _ ∧ Weak _ _;refine ⟨v + 1,?_,?_,ay [2,4,6,8,15,94,95,113]⟩
    ·omega
    ·omega
  ·have hv2:v = N.ends.length:=by
    have:¬ v < N.ends.length:=by simpa using hb
    omega
   have hD:=Lo hN hk0 hPP hkn;have hDl:(Gq N k fun x s=>nF (lg L x) s).ends.length = N.ends.length * k:=mq _;rw [hv2];refine an ?_;refine bd [2,4,6,8,15,113] (by simp only [ae,pZ,simprocAttr]; exact rfl) ?_;refine ab (dR fun K hK=>?_);(repeat refine eV ?_);refine cL rfl ⟨rfl,_,rfl⟩ (by omega) (by first | exact Zu) (U9 ⟨false,f.t1,f.o2,f.t2,false,f.t3,false,f.t4⟩ N true 26 k L (fun x s=>nF (lg L x) s) hs hN.ins hk0 (by omega) (by omega) (by omega) hdg (by rw [← hx,hx2,hX]) (fun y hy=>(hS.row y (by omega)).1) hPP (fun y s hy hs9=>(hS.row y (by omega)).2.2.1 s hs9)) ?_;rintro _ rfl;(repeat refine eV ?_);have dK:=@netO.eq_1;refine aa (hK _ (au [6,7,113] ?_));clear hK K;exact ai (b6 Tryz.results126 Tryz.ntmps126 (.two (.re _ _ (.cell 6 _ _ _ _ rfl rfl aq rfl rfl (ao (Gq N k fun x s=>nF (lg L x) s)))) (.re _ _ (.own _ _ _ _ rfl rfl (own1 (cq _ _))))) (by decide) (by decide) rfl rfl rfl ⟨p0,s0,_,rfl,by omega,Gq N k fun x s=>nF (lg L x) s,shN k (N.ends.length * k),rfl,hD,rfl,by rw [Na,hDl]⟩)
end
end Go.Proofs.YtfknckinfcicbaaGreat

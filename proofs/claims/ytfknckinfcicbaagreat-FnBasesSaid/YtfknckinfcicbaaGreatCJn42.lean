/- Parts of the proof. -/
import Derived.Test.YtfknckinfcicbaaGreatCJn23
import Derived.Test.YtfknckinfcicbaaGreatCJn40
import Derived.Test.YtfknckinfcicbaaGreatCJn9
set_option linter.unusedSimpArgs false
set_option linter.unusedVariables false
namespace Go.Proofs.YtfknckinfcicbaaGreat
section
open Go Go.RowKit
theorem Nw (k:Nat → List Int):∀ n c,c < cnB k n → ∃ u,u < n ∧ nm k u = c
 | 0,c,h=>by rw [C8] at h; omega
 | n + 1,c,h=>by
  by_cases h1:c < cnB k n
  ·obtain ⟨u,hu,he⟩:=Nw k n c h1;exact ⟨u,by omega,he⟩
  ·rw [dz] at h
   by_cases h2:jd k n = true
   ·rw [if_pos h2] at h;exact ⟨n,by omega,by rw [yl h2]; omega⟩
   ·rw [if_neg h2] at h; omega
def fbL (cls:List Int) (n c:Nat):List Int:=(cp n).filter fun v=>gi cls v.toNat == (c:Int)
theorem Az {cls:List Int} {n c:Nat} {x:Int}:x ∈ fbL cls n c ↔ 0 ≤ x ∧ x < n ∧ gi cls x.toNat = c:=by
 unfold fbL;rw [List.mem_filter,ja,beq_iff_eq,and_assoc]
theorem xc (cls:List Int) (n c:Nat):fbL cls (n + 1) c = if gi cls n = c then fbL cls n c ++ [(n:Int)] else fbL cls n c:=by
 unfold fbL;rw [Bj,List.filter_append]
 by_cases h:gi cls n = c
 ·rw [if_pos h];have:(gi cls ((n:Int)).toNat == (c:Int)) = true:=by rw [Int.toNat_natCast]; simpa using h
  simp only [List.filter_cons,this,if_pos,List.filter_nil]
 ·rw [if_neg h];have:(gi cls ((n:Int)).toNat == (c:Int)) = false:=by rw [Int.toNat_natCast]; simpa using h
  simp only [List.filter_cons,this,List.filter_nil];simp
def rpF (cls:List Int) (n c:Nat):Nat:=(gi (fbL cls n c) 0).toNat
theorem ii {cls:List Int} {n c:Nat} (h:∃ u,u < n ∧ gi cls u = (c:Int)):0 < (fbL cls n c).length ∧ rpF cls n c < n ∧ gi cls (rpF cls n c) = c ∧ gi (fbL cls n c) 0 = (rpF cls n c:Nat):=by
 obtain ⟨u,hu,he⟩:=h;have hm:(u:Int) ∈ fbL cls n c:=Az.2 ⟨by omega,by omega,by rw [Int.toNat_natCast]; exact he⟩;have hl:0 < (fbL cls n c).length:=List.length_pos_of_mem hm;have h0:gi (fbL cls n c) 0 ∈ fbL cls n c:=by rw [bt hl]; exact List.getElem_mem hl
 obtain ⟨h1,h2,h3⟩:=Az.1 h0;refine ⟨hl,?_,h3,?_⟩
 ·unfold rpF; omega
 ·unfold rpF; omega
def qsE (N:Net) (cls:List Int) (c:Nat):List (Int × Int):=(gl N.ends (rpF cls N.ends.length c)).map fun e=>(gi cls e.1.toNat,e.2)
def quN (N:Net) (cls:List Int) (K:Nat):Net:=⟨(List.range K).map (qsE N cls),[],(List.range K).map fun c=>gi N.inputs (rpF cls N.ends.length c)⟩
section
variable {N:Net} {cls:List Int} {K:Nat}
theorem gv:(quN N cls K).ends.length = K:=by simp [quN]
theorem qz {c:Nat} (h:c < K):gl (quN N cls K).ends c = qsE N cls c:=by simp [quN,gl,h]
theorem Gb {c:Nat} (h:c < K):gi (quN N cls K).inputs c = gi N.inputs (rpF cls N.ends.length c):=by simp [quN,gi,h]
theorem wn (c:Nat):(qsE N cls c).length = (gl N.ends (rpF cls N.ends.length c)).length:=by simp [qsE]
theorem Gc {c i:Nat} (h:i < (gl N.ends (rpF cls N.ends.length c)).length):gp (qsE N cls c) i = (gi cls (gp (gl N.ends (rpF cls N.ends.length c)) i).1.toNat,(gp (gl N.ends (rpF cls N.ends.length c)) i).2):=by
 simp [qsE,gp,h]
end
def pmV (A B:Net) (m:List Int) (v:Nat):Bool :=
 !decide ((gl A.ends v).length = (gl B.ends (gi m v).toNat).length) || !decide (gi A.inputs v = gi B.inputs (gi m v).toNat) ||
 qp (gl A.ends v).length fun i=>!decide (gp (gl B.ends (gi m v).toNat) i = (gi m (gp (gl A.ends v) i).1.toNat,(gp (gl A.ends v) i).2))
def pmB (A B:Net) (m:List Int):Bool:=decide (m.length = A.ends.length) && (m.all fun x=>inB x 0 ((B.ends.length:Int) - 1)) && !(qp A.ends.length (pmV A B m))
theorem o9 {A B:Net} {m:List Int} {v:Nat}:pmV A B m v = false ↔ (gl A.ends v).length = (gl B.ends (gi m v).toNat).length ∧ gi A.inputs v = gi B.inputs (gi m v).toNat ∧
 ∀ i,i < (gl A.ends v).length → gp (gl B.ends (gi m v).toNat) i = (gi m (gp (gl A.ends v) i).1.toNat,(gp (gl A.ends v) i).2):=by
 unfold pmV;rw [Bool.or_eq_false_iff,Bool.or_eq_false_iff];constructor
 ·rintro ⟨⟨h1,h2⟩,h3⟩;refine ⟨by simpa using h1,by simpa using h2,fun i hi=>?_⟩;apply Classical.byContradiction;intro h;have:=(r7 (b:=fun i=>!decide (gp (gl B.ends (gi m v).toNat) i = (gi m (gp (gl A.ends v) i).1.toNat,(gp (gl A.ends v) i).2)))).2 ⟨i,hi,by simp [h]⟩;rw [h3] at this; cases this
 ·rintro ⟨h1,h2,h3⟩;refine ⟨⟨by simp [h1],by simp [h2]⟩,pz fun i hi=>by simp [h3 i hi]⟩
section
variable {N:Net} {d:Nat}
theorem ip (hd:IsSd N d) (hr:Rng N) {c:Nat} (h:c < br N d):∃ u,u < N.ends.length ∧ gi (bv N d) u = (c:Int):=by
 obtain ⟨u,hu,he⟩:=Nw (vk N d) N.ends.length c h;exact ⟨u,hu,by rw [sc,sx hu,he]⟩
theorem y9 (hd:IsSd N d) (hr:Rng N) {u v:Nat} (hu:u < N.ends.length) (hv:v < N.ends.length) (he:gi (bv N d) u = gi (bv N d) v) :
 (gl N.ends u).length = (gl N.ends v).length ∧ gi N.inputs u = gi N.inputs v ∧ ∀ i,i < (gl N.ends u).length → (gp (gl N.ends u) i).2 = (gp (gl N.ends v) i).2 ∧ gi (bv N d) (gp (gl N.ends u) i).1.toNat = gi (bv N d) (gp (gl N.ends v) i).1.toNat :=
 fk.1 (hd.all hr 1 u v hu hv ((gg hu hv).1 he))
theorem Ga (hd:IsSd N d) (hr:Rng N):pmB N (quN N (bv N d) (br N d)) (bv N d) = true:=by
 unfold pmB;have h1:decide ((bv N d).length = N.ends.length) = true:=decide_eq_true (di N d)
 have h2:((bv N d).all fun x=>inB x 0 (((quN N (bv N d) (br N d)).ends.length:Int) - 1)) = true:=by
  rw [List.all_eq_true];intro x hx;obtain ⟨i,hi,rfl⟩:=List.getElem_of_mem hx;have hi':i < N.ends.length:=by rw [← di N d]; exact hi
  have:=fx (t:=d) hi';rw [bt hi] at this;rw [gv];exact db.2 (by omega)
 have h3:qp N.ends.length (pmV N (quN N (bv N d) (br N d)) (bv N d)) = false:=pz fun v hv=>by
  obtain ⟨c0,c1⟩:=fx (N:=N) (t:=d) hv;obtain ⟨c,hc⟩:=Int.eq_ofNat_of_zero_le c0;have hcK:c < br N d:=by omega
  obtain ⟨-,r1,r2,-⟩:=ii (ip hd hr hcK);obtain ⟨a1,a2,a3⟩:=y9 hd hr hv r1 (by rw [hc,r2]);rw [o9,hc,Int.toNat_natCast,qz hcK,Gb hcK,wn];refine ⟨a1,a2,fun i hi=>?_⟩;obtain ⟨a4,a5⟩:=a3 i hi;rw [Gc (by omega),a4,a5]
 rw [h1,h2,h3]; rfl
theorem By (hd:IsSd N d) (hg:bg N = true):bg (quN N (bv N d) (br N d)) = true:=by
 have hr:=ju hg;obtain ⟨h1,h2,h3,h4,h5⟩:=fm.1 hg;obtain ⟨h6,h7⟩:=vf.1 h5;have h8:=db.1 h1;have hK1:=ll N d;have hK2:=xu hr.1 d;have hl:=gv (N:=N) (cls:=bv N d) (K:=br N d);refine fm.2 ⟨db.2 (by rw [hl]; omega),rfl,by rw [hl]; simp [quN],?_,vf.2 ⟨fun k hk=>?_,fun a i ha hi=>?_⟩⟩
 ·rw [r8];intro k hk;have hk':k < br N d:=by simpa [quN] using hk
  obtain ⟨-,r1,-,-⟩:=ii (ip hd hr hk');rw [Gb hk'];exact r8.1 h4 _ (by omega)
 ·rw [hl] at hk;obtain ⟨-,r1,-,-⟩:=ii (ip hd hr hk);show (gl (quN N (bv N d) (br N d)).ends k).length ≤ 6;rw [qz hk,wn];exact h6 _ r1
 ·rw [hl] at ha;obtain ⟨-,r1,r2,-⟩:=ii (ip hd hr ha)
  have hi':i < dg N.ends (rpF (bv N d) N.ends.length a):=by
   have:i < (gl (quN N (bv N d) (br N d)).ends a).length:=hi;rw [qz ha,wn] at this;exact this
  obtain ⟨b,j,e1,hb,hj,e2⟩:=h7 _ i r1 hi';obtain ⟨c0,c1⟩:=fx (N:=N) (t:=d) hb;obtain ⟨c,hc⟩:=Int.eq_ofNat_of_zero_le c0;have hcK:c < br N d:=by omega
  obtain ⟨-,s1,s2,-⟩:=ii (ip hd hr hcK);obtain ⟨a1,a2,a3⟩:=y9 hd hr hb s1 (by rw [hc,s2]);have a3:=a3 j hj;have e1':gp (gl N.ends (rpF (bv N d) N.ends.length a)) i = ((b:Int),(j:Int)):=e1;have e2':gp (gl N.ends b) j = (((rpF (bv N d) N.ends.length a:Nat):Int),(i:Int)):=e2;rw [e2',Int.toNat_natCast,r2] at a3;have hj2:j < (gl N.ends (rpF (bv N d) N.ends.length c)).length:=by rw [← a1]; exact hj
  refine ⟨c,j,?_,by rw [hl]; exact hcK,?_,?_⟩
  ·show gp (gl (quN N (bv N d) (br N d)).ends a) i = _;rw [qz ha,Gc hi',e1',Int.toNat_natCast,hc]
  ·show j < (gl (quN N (bv N d) (br N d)).ends c).length;rw [qz hcK,wn]; exact hj2
  ·show gp (gl (quN N (bv N d) (br N d)).ends c) j = _;rw [qz hcK,Gc hj2,← a3.1,← a3.2]
end
section
variable {N:Net}
end
end
section
open Go Go.RowKit
noncomputable def clN (N:Net) (d u:Nat):Nat:=(gi (bv N d) u).toNat
section
variable {N:Net} {d:Nat}
theorem za {u:Nat} (hu:u < N.ends.length):clN N d u < br N d ∧ gi (bv N d) u = (clN N d u:Nat):=by
 have:=fx (t:=d) hu;unfold clN;omega
theorem Aq (hd:IsSd N d) (hr:Rng N) {u:Nat} (hu:u < N.ends.length) :
 (gl (quN N (bv N d) (br N d)).ends (clN N d u)).length = (gl N.ends u).length ∧ gi (quN N (bv N d) (br N d)).inputs (clN N d u) = gi N.inputs u ∧
 ∀ i,i < (gl N.ends u).length → gp (gl (quN N (bv N d) (br N d)).ends (clN N d u)) i = (((clN N d (gp (gl N.ends u) i).1.toNat:Nat):Int),(gp (gl N.ends u) i).2):=by
 obtain ⟨h1,h2⟩:=za (d:=d) hu;obtain ⟨-,r1,r2,-⟩:=ii (ip hd hr h1);obtain ⟨a1,a2,a3⟩:=y9 hd hr r1 hu (by rw [r2,h2]);rw [qz h1,Gb h1,wn];refine ⟨a1,a2,fun i hi=>?_⟩;obtain ⟨b1,b2⟩:=a3 i (by omega);have n2:=j4 hr hu hi;rw [Gc (by omega),b1,b2,(za (d:=d) n2).2]
theorem S3 (hd:IsSd N d) (hr:Rng N):∀ t u v,u < N.ends.length → v < N.ends.length → (vk (quN N (bv N d) (br N d)) t (clN N d u) = vk (quN N (bv N d) (br N d)) t (clN N d v) ↔ vk N t u = vk N t v):=by
 intro t
 induction t with
 | zero =>
  intro u v hu hv;obtain ⟨u1,u2,-⟩:=Aq hd hr hu;obtain ⟨v1,v2,-⟩:=Aq hd hr hv;show en _ none _ = en _ none _ ↔ en _ none _ = en _ none _;rw [lf,lf,u1,u2,v1,v2]
 | succ t ih =>
  intro u v hu hv;obtain ⟨u1,u2,u3⟩:=Aq hd hr hu;obtain ⟨v1,v2,v3⟩:=Aq hd hr hv;show en _ (some _) _ = en _ (some _) _ ↔ en _ (some _) _ = en _ (some _) _;rw [fk,fk,u1,u2,v1,v2];refine and_congr_right fun h1=>and_congr_right fun _=>⟨fun h i hi=>?_,fun h i hi=>?_⟩
  ·have n1:=j4 hr hu hi;have n2:=j4 hr hv (i:=i) (by omega);obtain ⟨g1,g2⟩:=h i hi;rw [u3 i hi,v3 i (by omega)] at g1 g2;simp only [Int.toNat_natCast] at g2;refine ⟨g1,?_⟩;rw [gg n1 n2];have c1:=(za (d:=d) n1).1;have c2:=(za (d:=d) n2).1;exact (ih _ _ n1 n2).1 ((gg (by rw [gv]; exact c1) (by rw [gv]; exact c2)).1 g2)
  ·have n1:=j4 hr hu hi;have n2:=j4 hr hv (i:=i) (by omega);obtain ⟨g1,g2⟩:=h i hi;rw [u3 i hi,v3 i (by omega)];simp only [Int.toNat_natCast];refine ⟨g1,?_⟩;have c1:=(za (d:=d) n1).1;have c2:=(za (d:=d) n2).1;exact (gg (by rw [gv]; exact c1) (by rw [gv]; exact c2)).2 ((ih _ _ n1 n2).2 ((gg n1 n2).1 g2))
theorem M3 {M:Net} (hr:Rng M) {s:Nat}:∀ m,Finer M.ends.length (vk M (s + m)) (vk M s)
 | 0=>fun _ _ _ _ e=>e
 | m + 1=>fun u v hu hv e=>M3 hr m u v hu hv (vw hr (s + m) u v hu hv e)
theorem Pw (hd:IsSd N d) (hr:Rng N) {e:Nat} (hq:Rng (quN N (bv N d) (br N d))) (he:IsSd (quN N (bv N d) (br N d)) e) {a b:Nat} (ha:a < br N d) (hb:b < br N d)
 (h:vk (quN N (bv N d) (br N d)) e a = vk (quN N (bv N d) (br N d)) e b):a = b:=by
 have hl:=gv (N:=N) (cls:=bv N d) (K:=br N d);have h1:=he.all hq d a b (by omega) (by omega) h;rw [Nat.add_comm] at h1;have h2:=M3 hq e a b (by omega) (by omega) h1;obtain ⟨u,hu,eu⟩:=ip hd hr ha;obtain ⟨v,hv,ev⟩:=ip hd hr hb;have cu:clN N d u = a:=by unfold clN; omega
 have cv:clN N d v = b:=by unfold clN; omega
 have h3:=(S3 hd hr d u v hu hv).1 (by rw [cu,cv]; exact h2);have h4:=(gg hu hv).2 h3;omega
end
theorem Hy {M:Net} {e:Nat} (h:∀ a b,a < M.ends.length → b < M.ends.length → vk M e a = vk M e b → a = b):bv M e = cp M.ends.length:=by
 have hnew:∀ v,v < M.ends.length → jd (vk M e) v = true:=fun v hv=>gm.2 fun u hu he=>by
  have:=h u v (by omega) hv he;omega
 have hcn:∀ v,v ≤ M.ends.length → cnB (vk M e) v = v:=by
  intro v
  induction v with
  | zero=>intro _; rfl
  | succ v ih =>
   intro hv;rw [dz,if_pos (hnew v (by omega)),ih (by omega)]
 rw [sc];refine lj (by rw [xi,dl]) fun i hi=>?_;rw [xi] at hi;rw [sx hi,yl (hnew i hi),hcn i (by omega)];simp [gi,cp,hi]
theorem gw {A B:Net} {m:List Int}:pmB A B m = true ↔ m.length = A.ends.length ∧ (∀ v,v < A.ends.length → 0 ≤ gi m v ∧ gi m v < B.ends.length) ∧ ∀ v,v < A.ends.length → pmV A B m v = false:=by
 unfold pmB;rw [Bool.and_eq_true,Bool.and_eq_true,Bool.not_eq_true',decide_eq_true_iff,List.all_eq_true];constructor
 ·rintro ⟨⟨h1,h2⟩,h3⟩;refine ⟨h1,fun v hv=>?_,fun v hv=>?_⟩
  ·have:=db.1 (h2 (gi m v) (by rw [bt (by omega)]; exact List.getElem_mem (by omega)));omega
  ·cases h5:pmV A B m v with
   | false=>rfl
   | true =>
    have:=r7.2 ⟨v,hv,h5⟩;rw [h3] at this; cases this
 ·rintro ⟨h1,h2,h3⟩;refine ⟨⟨h1,fun x hx=>?_⟩,pz h3⟩;obtain ⟨i,hi,rfl⟩:=List.getElem_of_mem hx;have:=h2 i (by omega);rw [bt hi] at this;exact db.2 (by omega)
theorem Ws {M:Net} {m:List Int} (hr:Rng M) (h:pmB M M m = true):∀ t v,v < M.ends.length → vk M t (gi m v).toNat = vk M t v:=by
 obtain ⟨-,h2,h3⟩:=gw.1 h;intro t
 induction t with
 | zero =>
  intro v hv;obtain ⟨p1,p2,-⟩:=o9.1 (h3 v hv);exact lf.2 ⟨p1.symm,p2.symm⟩
 | succ t ih =>
  intro v hv;obtain ⟨p1,p2,p3⟩:=o9.1 (h3 v hv);refine fk.2 ⟨p1.symm,p2.symm,fun i hi=>?_⟩;rw [← p1] at hi;have n1:=j4 hr hv hi;have:=h2 _ n1;rw [p3 i hi];exact ⟨rfl,(gg (by omega) n1).2 (ih _ n1)⟩
theorem Wt {M:Net} {m:List Int} {e:Nat} (hr:Rng M) (hs:∀ a b,a < M.ends.length → b < M.ends.length → vk M e a = vk M e b → a = b) (h:pmB M M m = true):m = cp M.ends.length:=by
 obtain ⟨h1,h2,-⟩:=gw.1 h;refine lj (by rw [h1,dl]) fun i hi=>?_;rw [h1] at hi;have h3:=h2 i hi;have h4:=hs _ _ (by omega) hi (Ws hr h e i hi);have h5:gi (cp M.ends.length) i = (i:Int):=by simp [gi,cp,hi]
 rw [h5]; omega
theorem jce {M:Net} (hs:Sym M.ends):pmB M M (cp M.ends.length) = true:=by
 have h5:∀ i,i < M.ends.length → gi (cp M.ends.length) i = (i:Int):=fun i hi=>by simp [gi,cp,hi]
 refine gw.2 ⟨dl _,fun v hv=>by rw [h5 v hv]; omega,fun v hv=>o9.2 ?_⟩;rw [h5 v hv,Int.toNat_natCast];refine ⟨rfl,rfl,fun i hi=>?_⟩;obtain ⟨b,j,e,hb,-,-⟩:=hs v i hv hi;have e':gp (gl M.ends v) i = ((b:Int),(j:Int)):=e;rw [e',Int.toNat_natCast,h5 b hb]
end
end Go.Proofs.YtfknckinfcicbaaGreat

/- Parts of the proof. -/
import Derived.Test.YtolpiolnhgpjjaaGreatCJn45
import Derived.Test.YtolpiolnhgpjjaaGreatCJn37
import Derived.Test.YtolpiolnhgpjjaaGreatCJn40
import Derived.Test.YtolpiolnhgpjjaaGreatCJn31
import Derived.Test.YtolpiolnhgpjjaaGreatCMtr2
import Derived.Test.YtolpiolnhgpjjaaGreatCJn7
import Derived.Test.YtolpiolnhgpjjaaGreatCCmp
import Derived.Test.YtolpiolnhgpjjaaGreatCJn41
import Derived.Test.YtolpiolnhgpjjaaGreatCDf1
import Derived.Test.YtolpiolnhgpjjaaGreatCDcm
import Derived.Test.YtolpiolnhgpjjaaGreatCJn19
import Derived.Test.YtolpiolnhgpjjaaGreatCJn9
set_option linter.unusedSimpArgs false
set_option linter.unusedVariables false
namespace Go.Proofs.YtolpiolnhgpjjaaGreat
section
open Go Go.RowKit Go.Sort
theorem zf {P : Nat → Prop} (k : Nat) (h : P k) : ∃ m, m ≤ k ∧ P m ∧ ∀ j, j < m → ¬ P j := by
 induction k using Nat.strongRecOn with
 | ind k ih =>
  by_cases hj : ∃ j, j < k ∧ P j
  ·obtain ⟨j, h1, h2⟩ := hj;obtain ⟨m, g1, g2, g3⟩ := ih j h1 h2;exact ⟨m, by omega, g2, g3⟩
  ·exact ⟨k, Nat.le_refl k, h, fun j h1 h2 => hj ⟨j, h1, h2⟩⟩
theorem tw : ∀ n, bin n n = 1
 | 0 => rfl
 | n + 1 => by rw [bin, tw n, jh (Nat.lt_succ_self n)]
theorem Ep : ∀ d x, sbs d x d 0 = (List.range d).map fun i => ((x + i : Nat) : Int)
 | 0, x => rfl
 | d + 1, x => by
  rw [sbs, if_pos (by rw [tw]; omega), Ep d (x + 1), List.range_succ_eq_map, List.map_cons, List.map_map];exact List.cons_eq_cons.2 ⟨rfl, List.map_congr_left fun i _ => by show ((x + 1 + i : Nat) : Int) = ((x + (i + 1) : Nat) : Int); omega⟩
theorem Eo (n : Nat) : sbs n 0 n 0 = dh n := by
 rw [Ep]; unfold dh;exact List.map_congr_left fun i _ => by rw [Nat.zero_add]
theorem Mg {good : List Int → Bool} {n : Nat} (h : good (dh n) = true) : ∃ k r, k ≤ n ∧ LeastS good n k r := by
 obtain ⟨k, h1, ⟨r0, h2, h3⟩, h4⟩ := zf (P := fun k => ∃ r, r < bin n k ∧ good (sbs n 0 k r) = true) n ⟨0, by rw [tw]; exact Nat.one_pos, by rw [Eo]; exact h⟩;obtain ⟨r, g1, g2, g3⟩ := zf (P := fun r => good (sbs n 0 k r) = true) r0 h3;refine ⟨k, r, h1, by omega, g2, fun r' hr => ?_, fun k' r' hk hr => ?_⟩
 ·have := g3 r' hr;simpa using this
 ·cases hg : good (sbs n 0 k' r') with
  | false => rfl
  | true => exact absurd ⟨r', hr, hg⟩ (h4 k' hk)
def nrF (far S : List Int) : Nat → Int
 | 0 => -1
 | k + 1 => if 0 ≤ gi far (gi S k).toNat ∧ (nrF far S k < 0 ∨ gi far (gi S k).toNat < nrF far S k) then gi far (gi S k).toNat else nrF far S k
theorem Fa {far S : List Int} : ∀ k, (nrF far S k = -1 ∧ ∀ j, j < k → gi far (gi S j).toNat < 0) ∨ (0 ≤ nrF far S k ∧ (∃ j, j < k ∧ nrF far S k = gi far (gi S j).toNat) ∧ ∀ j, j < k → 0 ≤ gi far (gi S j).toNat → nrF far S k ≤ gi far (gi S j).toNat)
 | 0 => .inl ⟨rfl, fun j hj => absurd hj (Nat.not_lt_zero _)⟩
 | k + 1 => by
  rw [nrF]
  rcases Fa (far := far) (S := S) k with ⟨h1, h2⟩ | ⟨h1, ⟨i, hi, he⟩, h3⟩
  ·by_cases h : 0 ≤ gi far (gi S k).toNat
   ·rw [if_pos ⟨h, .inl (by omega)⟩];refine .inr ⟨h, ⟨k, Nat.lt_succ_self k, rfl⟩, fun j hj h4 => ?_⟩
    by_cases hjk : j = k
    ·subst hjk; omega
    ·have := h2 j (by omega); omega
   ·rw [if_neg (fun hh => h hh.1)];refine .inl ⟨h1, fun j hj => ?_⟩
    by_cases hjk : j = k
    ·subst hjk; omega
    ·exact h2 j (by omega)
  ·by_cases h : 0 ≤ gi far (gi S k).toNat ∧ gi far (gi S k).toNat < nrF far S k
   ·rw [if_pos ⟨h.1, .inr h.2⟩];refine .inr ⟨h.1, ⟨k, Nat.lt_succ_self k, rfl⟩, fun j hj h4 => ?_⟩
    by_cases hjk : j = k
    ·subst hjk; omega
    ·have := h3 j (by omega) h4; omega
   ·rw [if_neg (fun hh => h ⟨hh.1, by rcases hh.2 with g | g <;> omega⟩)];refine .inr ⟨h1, ⟨i, by omega, he⟩, fun j hj h4 => ?_⟩
    by_cases hjk : j = k
    ·subst hjk;have h5 : ¬ gi far (gi S j).toNat < nrF far S j := fun hh => h ⟨h4, hh⟩;omega
    ·exact h3 j (by omega) h4
theorem Oz (far S : List Int) (a : Int) : inB (nrF far S S.length) 0 a = jc S.length fun j => inB (gi far (gi S j).toNat) 0 a := by
 rw [Bool.eq_iff_iff, ce, ft]
 rcases Fa (far := far) (S := S) S.length with ⟨h1, h2⟩ | ⟨h1, ⟨i, hi, he⟩, h3⟩
 ·constructor
  ·intro h; omega
  ·rintro ⟨j, hj, h4⟩;have := ce.1 h4;have := h2 j hj; omega
 ·constructor
  ·intro h; exact ⟨i, hi, ce.2 (by omega)⟩
  ·rintro ⟨j, hj, h4⟩;have := ce.1 h4;have := h3 j hj (by omega); omega
section
variable {N : Net}
theorem Gp {al v : Nat} {s : List Int} : cx N al v (sorted s) = cx N al v s := by
 have h : cx N al v (sorted s) = false ↔ cx N al v s = false := by
  rw [Dy, Dy];exact ⟨fun h x hx => h x (e8.2 hx), fun h x hx => h x (e8.1 hx)⟩
 cases h1 : cx N al v (sorted s) <;> cases h2 : cx N al v s <;> simp_all
theorem Qr {al v : Nat} {s : List Int} : inB (nrF (bo N v) s s.length) 0 ((al : Int) - 1) = cx N al v s := Oz _ _ _
theorem j5 (hs : Sym N.ends) {v w : Nat} (hv : v < N.ends.length) (hw : w < N.ends.length) : inB (gi (bo N v) w) 0 1 = true ↔ w = v ∨ ∃ i, i < (gl N.ends v).length ∧ nd N v i = w := by
 have hd := c9 hs hv;rw [ce];constructor
 ·rintro ⟨h1, h2⟩
  by_cases h0 : gi (bo N v) w = 0
  ·exact .inl (hd.zero w hw h0)
  ·obtain ⟨j, hj, hb⟩ := hd.back w hw (by omega);obtain ⟨q1, q2, q3, q4, q5⟩ := ec hs hw hj;have hz := hd.zero _ q1 (by omega);rw [hz] at q2 q3;exact .inr ⟨bk N w j, q2, q3⟩
 ·rintro (rfl | ⟨i, hi, rfl⟩)
  ·rw [hd.root]; omega
  ·have := hd.step v hv (by rw [hd.root]; omega) i hi;rw [hd.root] at this; omega
noncomputable def aw (N : Net) (v : Nat) : List Int := lh (fun j => inB (gi (bo N v) j) 0 1) N.ends.length
theorem pf {v : Nat} {x : Int} : x ∈ aw N v ↔ ∃ w : Nat, x = w ∧ w < N.ends.length ∧ inB (gi (bo N v) w) 0 1 = true := by
 unfold aw lh;simp only [List.mem_map, List.mem_filter, List.mem_range];constructor
 ·rintro ⟨w, ⟨h1, h2⟩, rfl⟩; exact ⟨w, rfl, h1, h2⟩
 ·rintro ⟨w, rfl, h1, h2⟩; exact ⟨w, ⟨h1, h2⟩, rfl⟩
theorem M4 (v : Nat) : (aw N v).Pairwise (· < ·) := by
 unfold aw lh;rw [List.pairwise_map];exact ((List.pairwise_lt_range (n := N.ends.length)).filter _).imp fun h => Int.ofNat_lt.2 h
theorem f0 (v : Nat) : ∀ x ∈ aw N v, 0 ≤ x ∧ x < N.ends.length := fun x hx => by
 obtain ⟨w, rfl, h1, -⟩ := pf.1 hx; omega
theorem zz (hs : Sym N.ends) {v : Nat} (hv : v < N.ends.length) : (v : Int) ∈ aw N v := pf.2 ⟨v, rfl, hv, (j5 hs hv hv).2 (.inl rfl)⟩
theorem O0 (hs : Sym N.ends) {v : Nat} (hv : v < N.ends.length) {x : Int} : x ∈ atL (dh N.ends.length) ((gl N.ends v).map Prod.fst) ↔ ∃ i, i < (gl N.ends v).length ∧ x = (nd N v i : Nat) := by
 unfold atL;rw [List.map_map, List.mem_map];constructor
 ·rintro ⟨e, he, rfl⟩;obtain ⟨i, hi, rfl⟩ := List.getElem_of_mem he;obtain ⟨q1, q2, q3, q4, q5⟩ := ec hs hv hi;refine ⟨i, hi, ?_⟩;rw [gy hi] at q5;simp only [Function.comp, q5, Int.toNat_natCast, ne q1]
 ·rintro ⟨i, hi, rfl⟩;obtain ⟨q1, q2, q3, q4, q5⟩ := ec hs hv hi;refine ⟨(gl N.ends v)[i], List.getElem_mem hi, ?_⟩;rw [gy hi] at q5;simp only [Function.comp, q5, Int.toNat_natCast, ne q1]
theorem Gq (hs : Sym N.ends) {v : Nat} (hv : v < N.ends.length) : Lib.compact (sorted (atL (dh N.ends.length) ((gl N.ends v).map Prod.fst) ++ [(v : Int)])) = aw N v := by
 refine In (Gf (uc _)) (M4 v) fun x => ?_;rw [Ge, e8, List.mem_append, List.mem_singleton, O0 hs hv, pf];constructor
 ·rintro (⟨i, hi, rfl⟩ | rfl)
  ·obtain ⟨q1, -⟩ := ec hs hv hi;exact ⟨_, rfl, q1, (j5 hs hv q1).2 (.inr ⟨i, hi, rfl⟩)⟩
  ·exact ⟨v, rfl, hv, (j5 hs hv hv).2 (.inl rfl)⟩
 ·rintro ⟨w, rfl, hw, h⟩
  rcases (j5 hs hv hw).1 h with rfl | ⟨i, hi, rfl⟩
  ·exact .inr rfl
  ·exact .inl ⟨i, hi, rfl⟩
def lu (N : Net) (S : List Int) (v : Nat) : Bool := decide (0 ≤ th S (v : Int)) || Fd N v S
def i6 (N : Net) (S : List Int) : Bool := !(jc N.ends.length fun v => !lu N S v)
theorem F7 (hs : Sym N.ends) {S : List Int} (hS : ∀ x ∈ S, 0 ≤ x ∧ x < N.ends.length) {v : Nat} (hv : v < N.ends.length) : lu N S v = jc S.length fun j => inB (gi (bo N v) (gi S j).toNat) 0 1 := by
 have hx : ∀ j, j < S.length → ∃ w : Nat, gi S j = w ∧ w < N.ends.length := fun j hj => by
  have := hS (gi S j) (by rw [bm hj]; exact List.getElem_mem hj);exact ⟨(gi S j).toNat, by omega, by omega⟩
 unfold lu;rw [Bool.eq_iff_iff, Bool.or_eq_true, decide_eq_true_iff, iz, ft];unfold Fd;rw [ft];constructor
 ·rintro (h | ⟨i, hi, h⟩)
  ·obtain ⟨j, hj, he⟩ := List.getElem_of_mem h;exact ⟨j, hj, by rw [bm hj, he, Int.toNat_natCast]; exact (j5 hs hv hv).2 (.inl rfl)⟩
  ·rw [decide_eq_true_iff, iz] at h;obtain ⟨q1, q2, q3, q4, q5⟩ := ec hs hv hi;rw [q5] at h;obtain ⟨j, hj, he⟩ := List.getElem_of_mem h;exact ⟨j, hj, by rw [bm hj, he, Int.toNat_natCast]; exact (j5 hs hv q1).2 (.inr ⟨i, hi, rfl⟩)⟩
 ·rintro ⟨j, hj, h⟩;obtain ⟨w, he, hw⟩ := hx j hj;rw [he, Int.toNat_natCast] at h;have hm : (w : Int) ∈ S := by rw [← he, bm hj]; exact List.getElem_mem hj
  rcases (j5 hs hv hw).1 h with rfl | ⟨i, hi, rfl⟩
  ·exact .inl hm
  ·refine .inr ⟨i, hi, ?_⟩;obtain ⟨q1, q2, q3, q4, q5⟩ := ec hs hv hi;rw [decide_eq_true_iff, iz, q5]; exact hm
theorem oe {S : List Int} : i6 N S = true ↔ ∀ v, v < N.ends.length → lu N S v = true := by
 unfold i6
 cases h : jc N.ends.length fun v => !lu N S v with
 | false =>
  refine ⟨fun _ v hv => ?_, fun _ => rfl⟩
  cases h2 : lu N S v with
  | true => rfl
  | false =>
   have := (ft (b := fun v => !lu N S v)).2 ⟨v, hv, by show (!lu N S v) = true; rw [h2]; rfl⟩;rw [h] at this; cases this
 | true =>
  obtain ⟨v, hv, h2⟩ := ft.1 h;refine ⟨(fun h => by cases h), fun h3 => ?_⟩;rw [h3 v hv] at h2; cases h2
theorem Qe : i6 N (dh N.ends.length) = true := oe.2 fun v hv => by
 unfold lu;rw [Bool.or_eq_true];exact .inl (by rw [decide_eq_true_iff, iz, xx]; omega)
theorem Mv (hn : 1 ≤ N.ends.length) : i6 N [] = false := by
 cases h : i6 N [] with
 | false => rfl
 | true =>
  have := oe.1 h 0 hn;unfold lu Fd at this;rw [Bool.or_eq_true, decide_eq_true_iff, iz, ft] at this
  rcases this with h | ⟨i, -, h⟩
  ·exact absurd h List.not_mem_nil
  ·rw [decide_eq_true_iff, iz] at h;exact absurd h List.not_mem_nil
structure GFin (N : Net) (s : Nat) : Prop where
 on : ∀ r, r < s → 0 < gnD (aw N) (cvD (aw N) N.ends.length r) (bsD (aw N) (cvD (aw N) N.ends.length r) N.ends.length)
 all : ∀ w, w < N.ends.length → cvD (aw N) N.ends.length s w = true
theorem Sg (hs : Sym N.ends) : ∃ s, GFin N s := by
 have key : ∀ m s, ct (fun w => !cvD (aw N) N.ends.length s w) N.ends.length ≤ m → (∀ r, r < s → 0 < gnD (aw N) (cvD (aw N) N.ends.length r) (bsD (aw N) (cvD (aw N) N.ends.length r) N.ends.length)) → ∃ t, GFin N t := by
  intro m
  induction m with
  | zero =>
   intro s hm hon;refine ⟨s, hon, fun w hw => ?_⟩
   cases hc : cvD (aw N) N.ends.length s w with
   | true => rfl
   | false =>
    have hp := K0 (c := cvD (aw N) N.ends.length s) (fun v hv => zz hs hv) hw hc;have := Gc (s := s) (fun v x hx => f0 (N := N) v x hx) hp;omega
  | succ m ih =>
   intro s hm hon
   by_cases h : ∀ w, w < N.ends.length → cvD (aw N) N.ends.length s w = true
   ·exact ⟨s, hon, h⟩
   ·have h2 : ∃ w, w < N.ends.length ∧ cvD (aw N) N.ends.length s w = false := by
     refine Classical.byContradiction fun hh => h fun w hw => ?_
     cases hc : cvD (aw N) N.ends.length s w with
     | true => rfl
     | false => exact absurd ⟨w, hw, hc⟩ hh
    obtain ⟨w, hw, hc⟩ := h2;have hp := K0 (c := cvD (aw N) N.ends.length s) (fun v hv => zz hs hv) hw hc;have hl := Gc (s := s) (fun v x hx => f0 (N := N) v x hx) hp;refine ih (s + 1) (by omega) fun r hr => ?_
    by_cases hrs : r = s
    ·subst hrs; exact hp
    ·exact hon r (by omega)
 exact key _ 0 (Nat.le_refl _) fun r hr => absurd hr (Nat.not_lt_zero r)
noncomputable def grD (N : Net) (s : Nat) : List Int := sorted (stD (aw N) N.ends.length s)
theorem GFin.nodup {s : Nat} (h : GFin N s) : ∀ k, k ≤ s → (stD (aw N) N.ends.length k).Nodup := fun k hk => x5 (fun v x hx => (f0 v x hx).1) k fun r hr => h.on r (by omega)
theorem GFin.inc {s : Nat} (h : GFin N s) : (grD N s).Pairwise (· < ·) := l0 (h.nodup s (Nat.le_refl s))
theorem Km {s : Nat} (hn : 0 < N.ends.length) : ∀ x ∈ grD N s, 0 ≤ x ∧ x < N.ends.length := fun x hx => xe hn (e8.1 hx)
theorem GFin.dom {s : Nat} (h : GFin N s) (hs : Sym N.ends) (hn : 0 < N.ends.length) : i6 N (grD N s) = true := oe.2 fun v hv => by
 rw [F7 hs (Km hn) hv, ft];obtain ⟨x, hx, hb⟩ := Du.1 (h.all v hv);have h0 := xe hn hx;obtain ⟨w, hw1, hw2, hw3⟩ := pf.1 hb;have hw1 : v = w := by omega
 subst hw1;have hm : x ∈ grD N s := e8.2 hx;obtain ⟨j, hj, he⟩ := List.getElem_of_mem hm;refine ⟨j, hj, ?_⟩;rw [bm hj, he, ← F9 hs (by omega) hv];exact hw3
theorem xf (s : Nat) : (stD (aw N) N.ends.length s).length = s := by
 induction s with
 | zero => rfl
 | succ s ih => rw [stD, List.length_append, ih]; rfl
theorem GFin.le {s : Nat} (h : GFin N s) (hn : 0 < N.ends.length) : s ≤ N.ends.length := by
 have h1 := (h.nodup s (Nat.le_refl s));have h2 := np N.ends.length _ h1 fun x hx => xe hn hx;rwa [xf] at h2
end
end
section
set_option maxHeartbeats 0
set_option maxRecDepth 8000
open Go Go.RowKit
theorem F6 (N : Net) (S : List Int) (v : Nat) : (!lu N S v) = (!decide (0 ≤ th S (v : Int)) && !Fd N v S) := by
 unfold lu; rw [Bool.not_or]
def zBRb21 := PLift.up (And.intro ap (And.intro bc (And.intro b9 (And.intro bg (And.intro ay (And.intro @if_pos.{1} (And.intro @b6 (And.intro @bq (And.intro @ba (And.intro @a8 @trivial))))))))))
theorem mj : type_of% zBRb21.down := zBRb21.down
theorem wv (f : NF) (N : Net) (o : Bool) (t : TypeId) (S : List Int) (v : Nat) (hg : bj N = true) (hv : v < N.ends.length) (hl : S.length ≤ 1000000) : DCalls Tryz.prog 172 [.c (.p (.int .i64 v)), .rp [.sl o t 1 (S.map iC)], .rp (bi f N)] (fun r => r = [.c (.p (.bool (!lu N S v)))]) := by
 refine am Tryz.func172 rfl (by rw [Tryz.ntmps172]; simp) fun w0 => ?_;rw [Tryz.ntmps172];have dX := mj;simp only [b4, bd, Arg.av, bi, b7, ints, ends];refine ab (dR fun K hK => ?_);(repeat refine eV ?_);refine aa (hK _ (wK [0, 1, 2] ?_));clear hK K;refine ab (dR fun K hK => ?_)
 repeat (apply bz; (focus exact rfl); (focus (simp (disch := first | omega | (intros; contradiction)) only [ac, bl, pZ, simprocAttr, ap, bc, b9, bg, ay, if_pos, b6, bq, ba, a8 , f6, Bt]; exact rfl)))
 refine du rfl ⟨rfl, _, rfl⟩ (by omega) (by first | exact f6 | exact Bt) (by simp (disch := first | omega | (intros; contradiction)) only [ac, bl, pZ, simprocAttr, ap, bc, b9, bg, ay, if_pos, b6, bq, ba, a8 , f6, Bt] <;> exact rfl) (mr o t S v hl) ?_;rintro _ rfl
 repeat (apply bz; (focus exact rfl); (focus (simp (disch := first | omega | (intros; contradiction)) only [ac, bl, pZ, simprocAttr, ap, bc, b9, bg, ay, if_pos, b6, bq, ba, a8 , f6, Bt]; exact rfl)))
 obtain h1 | h1 := Bool.eq_false_or_eq_true (decide (0 ≤ th S (v : Int)))
 ·have dX := And.intro dX (@h1);(repeat refine eV ?_);have dX := And.intro dX (@h1);refine csF ?_;(repeat refine eV ?_);have dX := And.intro dX (@h1);(repeat refine eV ?_);have dK := @h1;refine aa (hK _ (ax [4] ?_));clear hK K;exact ak (an Tryz.results172 (.one (.plain _ _ rfl)) (by decide) (by rw [F6, h1]; rfl))
 ·have dX := And.intro dX (@h1);(repeat refine eV ?_);refine cgF rfl rfl ⟨rfl, _, rfl⟩ (by omega) (by first | exact f6 | exact Bt) (Mn f N v o t S hg hv hl) ?_;rintro _ rfl
  repeat (apply bz; (focus exact rfl); (focus (simp (disch := first | omega | (intros; contradiction)) only [ac, bl, pZ, simprocAttr, ap, bc, b9, bg, ay, if_pos, b6, bq, ba, a8 , h1, f6, Bt]; exact rfl)))
  have dK := @h1;refine aa (hK _ (ax [4] ?_));clear hK K;exact ak (an Tryz.results172 (.one (.plain _ _ rfl)) (by decide) (by rw [F6, h1]; rfl))
theorem mv (f : NF) (N : Net) (o : Bool) (t : TypeId) (S : List Int) (hg : bj N = true) (hl : S.length ≤ 1000000) : DCalls Tryz.prog 105 [.agg (bi f N), .c (.sl o t 1 (S.map iC))] (fun r => r = [.c (.p (.bool (i6 N S)))]) := by
 obtain ⟨hs, hn, hids, hdg⟩ := cp hg;have hul := dp N.ends.length
 have hclo : ∀ j, j < (dh N.ends.length).length → DCalls Tryz.prog 172 ([.c (.p (.int .i64 (gi (dh N.ends.length) j)))] ++ [[C.sl false t 1 (S.map iC)], bi ⟨false, f.t1, f.o2, f.t2, false, f.t3, false, f.t4⟩ N].map .rp) (fun r => r = [.c (.p (.bool (!lu N S j)))]) := fun j hj => by
  rw [ne (by omega)];exact wv ⟨false, f.t1, f.o2, f.t2, false, f.t3, false, f.t4⟩ N false t S j hg (by omega) hl
 simp only [bi, b7, ints, ends] at hclo;have hdm : (!(jc (dh N.ends.length).length fun j => !lu N S j)) = i6 N S := by rw [hul]; rfl
 refine am Tryz.func105 rfl (by rw [Tryz.ntmps105]; simp) fun w0 => ?_;rw [Tryz.ntmps105];have dX := mj;simp only [b4, bd, Arg.av, bi, b7, ints, ends];refine ab (dR fun K hK => ?_);(repeat refine eV ?_);refine aa (hK _ (wK [2, 3] ?_));clear hK K;refine ab (dR fun K hK => ?_)
 repeat (apply bz; (focus exact rfl); (focus (simp (disch := first | omega | (intros; contradiction)) only [ac, bl, pZ, simprocAttr, ap, bc, b9, bg, ay, if_pos, b6, bq, ba, a8 , qf, nt]; exact rfl)))
 refine du rfl ⟨rfl, _, rfl⟩ (by omega) (by first | exact qf | exact nt) (by simp (disch := first | omega | (intros; contradiction)) only [ac, bl, pZ, simprocAttr, ap, bc, b9, bg, ay, if_pos, b6, bq, ba, a8 , qf, nt] <;> exact rfl) (nl N.ends.length (by omega)) ?_;rintro _ rfl
 repeat (apply bz; (focus exact rfl); (focus (simp (disch := first | omega | (intros; contradiction)) only [ac, bl, pZ, simprocAttr, ap, bc, b9, bg, ay, if_pos, b6, bq, ba, a8 , qf, nt]; exact rfl)))
 refine du rfl ⟨rfl, _, rfl⟩ (by omega) (by first | exact qf | exact nt) (by simp (disch := first | omega | (intros; contradiction)) only [ac, bl, pZ, simprocAttr, ap, bc, b9, bg, ay, if_pos, b6, bq, ba, a8 , qf, nt] <;> exact rfl) (oz true 3 (dh N.ends.length) 172 _ (fun j => !lu N S j) (by omega) U3 hclo) ?_;rintro _ rfl
 repeat (apply bz; (focus exact rfl); (focus (simp (disch := first | omega | (intros; contradiction)) only [ac, bl, pZ, simprocAttr, ap, bc, b9, bg, ay, if_pos, b6, bq, ba, a8 , qf, nt]; exact rfl)))
 have dK := @hdm;refine aa (hK _ (ax [4] ?_));clear hK K;exact ak (an Tryz.results105 (.one (.plain _ _ rfl)) (by decide) rfl)
theorem ou (f : NF) (N : Net) (o : Bool) (t : TypeId) (S : List Int) (hg : bj N = true) (hr : js S 0 ((N.ends.length : Int) - 1) = true) (hl : S.length ≤ 1000000) : DCalls Tryz.prog 32 [.agg (bi f N), .c (.sl o t 1 (S.map iC))] (fun r => r = [.c (.p (.bool (i6 N S))), .c (.p (.bool true))]) := by
 obtain ⟨hs, hn, hids, hdg⟩ := cp hg;refine am Tryz.func32 rfl (by rw [Tryz.ntmps32]; simp) fun w0 => ?_;rw [Tryz.ntmps32];have dX := mj;simp only [b4, bd, Arg.av, bi, b7, ints, ends];refine ab (dR fun K hK => ?_);(repeat refine eV ?_);refine aa (hK _ (wK [1, 2] ?_));clear hK K;refine ab ?_;refine ab (dR fun K hK => ?_);(repeat refine eV ?_);refine cL rfl ⟨rfl, _, rfl⟩ (by omega) (by first | exact Fk) (ny ⟨false, f.t1, f.o2, f.t2, false, f.t3, false, f.t4⟩ N o t S (by omega) (by omega)) ?_;rintro _ rfl;(repeat refine eV ?_);have dK := And.intro @hg @hr;refine aa (hK _ (ax [1, 2, 9] ?_));clear hK K;refine dI ?_ ?_<;>intro hb
 ·cases hb
 ·refine af ?_;show DW _ _ _ _ _;refine ab (dR fun K hK => ?_);(repeat refine eV ?_);refine cL rfl ⟨rfl, _, rfl⟩ (by omega) (by first | exact Ps) (mv ⟨false, f.t1, f.o2, f.t2, false, f.t3, false, f.t4⟩ N o t S hg hl) ?_;rintro _ rfl;(repeat refine eV ?_);refine aa (hK _ (wK [4, 5] ?_));clear hK K;exact ak (an Tryz.results32 (.two (.plain _ _ rfl) (.plain _ _ rfl)) (by decide) rfl)
theorem Jx (f : NF) (N : Net) (o : Bool) (t : TypeId) (S : List Int) (v : Nat) (hg : bj N = true) (hv : v < N.ends.length) (hS : ∀ x ∈ S, 0 ≤ x ∧ x < N.ends.length) (hl : S.length ≤ 1000000) : DCalls Tryz.prog 170 [.agg (bi f N), .c (.sl o t 1 (S.map iC)), .c (.p (.int .i64 v))] (fun r => r = [.c (.p (.int .i64 (nrF (bo N v) S S.length)))]) := by
 obtain ⟨hs, hn, hids, hdg⟩ := cp hg;have hdl := (c9 hs hv).len;refine am Tryz.func170 rfl (by rw [Tryz.ntmps170]; simp) fun w0 => ?_;rw [Tryz.ntmps170];have dX := mj;simp only [b4, bd, Arg.av, bi, b7, ints, ends];refine ab (dR fun K hK => ?_);(repeat refine eV ?_);refine aa (hK _ (wK [1, 2, 3] ?_));clear hK K;refine ab (dR fun K hK => ?_);(repeat refine eV ?_);refine aa (hK _ (wK [1, 2, 3, 7] ?_));clear hK K;refine ab (dR fun K hK => ?_);(repeat refine eV ?_);refine cL rfl ⟨rfl, _, rfl⟩ (by omega) (by first | exact Ph) (Fi ⟨false, f.t1, f.o2, f.t2, false, f.t3, false, f.t4⟩ N v hs hv (by omega) hdg) ?_;rintro _ rfl;(repeat refine eV ?_);refine aa (hK _ (wK [1, 7, 8] ?_));clear hK K;refine ab ?_;refine ab (dR fun K hK => ?_);(repeat refine eV ?_);refine aa (hK _ (wK [7, 8, 14, 15, 16] ?_));clear hK K;refine ae ?_;refine au (X := Nat) (fun k => k ≤ S.length) (fun k => [(7, .c (.p (.int .i64 (nrF (bo N v) S k)))), (16, .c (.p (.int .i64 k)))]) (fun k => []) (fun k => S.length - k) 0 (Nat.zero_le _) (by first | rfl | (simp only [ac, pZ, simprocAttr, Int.natCast_zero] <;> rfl)) ?_;rintro k hk;intro E hE;simp only [ac, pZ, simprocAttr] at hE;subst hE;refine ab (dR fun K hK => ?_);(repeat refine eV ?_);refine aa (hK _ (wK [7, 8, 14, 15, 16, 17] ?_));clear hK K;refine ab (dI (fun hb => ?_) (fun hb => ?_))
 ·have hk1 : k < S.length := by simpa using hb
  obtain ⟨w, hw, hwl⟩ : ∃ w : Nat, gi S k = w ∧ w < N.ends.length := by
   have h := hS (gi S k) (by rw [bm hk1]; exact List.getElem_mem hk1);exact ⟨(gi S k).toNat, by omega, by omega⟩
  have hsucc : nrF (bo N v) S (k + 1) = if 0 ≤ gi (bo N v) w ∧ (nrF (bo N v) S k < 0 ∨ gi (bo N v) w < nrF (bo N v) S k) then gi (bo N v) w else nrF (bo N v) S k := by rw [nrF, hw, Int.toNat_natCast]
  obtain ⟨B, hB⟩ : ∃ B, B = nrF (bo N v) S k := ⟨_, rfl⟩;obtain ⟨D, hD⟩ : ∃ D, D = bo N v := ⟨_, rfl⟩;rw [← hB] at hsucc ⊢;rw [← hD] at hsucc hdl ⊢;refine af ?_;show DW _ _ _ _ _;refine ab (ae ?_);have dX := And.intro dX (@hw);refine ab (dR fun K hK => ?_);(repeat refine eV ?_);have dK := @hw;refine aa (hK _ (ax [7, 8, 10, 14, 15, 16] ?_));clear hK K
  by_cases c1 : 0 ≤ gi D w
  ·have d1 : decide (gi D w ≥ 0) = true := decide_eq_true c1
   by_cases c2 : B < 0
   ·have d2 : decide (B < 0) = true := decide_eq_true c2;have hy : nrF D S (k + 1) = gi D w := by rw [hsucc, if_pos ⟨c1, .inl c2⟩]
    have dX := And.intro dX (And.intro @Int.toNat_natCast (And.intro @d1 @d2));refine ab (dR fun K hK => ?_);(repeat refine eV ?_);have dK := And.intro @Int.toNat_natCast (And.intro @d1 @d2);refine aa (hK _ (ax [7, 8, 10, 14, 15, 16, 36] ?_));clear hK K;refine dI ?_ ?_<;>intro hb
    ·have dX := And.intro dX (@Int.toNat_natCast);refine dR fun K hK => ?_;(repeat refine eV ?_);have dK := @Int.toNat_natCast;refine aa (hK _ (ax [7, 8, 14, 15, 16] ?_));clear hK K;refine dR fun K hK => ?_;(repeat refine eV ?_);have dK := And.intro @bt @hy;refine aa (hK _ ?_);clear hK K;show ∃ x, _ ∧ _ ∧ Weak _ _;refine ⟨k + 1, ?_, ?_, aq [7, 8, 14, 15, 16]⟩
     ·omega
     ·omega
    ·cases hb
   ·have d2 : decide (B < 0) = false := decide_eq_false c2
    by_cases c3 : gi D w < B
    ·have d3 : decide (gi D w < B) = true := decide_eq_true c3;have hy : nrF D S (k + 1) = gi D w := by rw [hsucc, if_pos ⟨c1, .inr c3⟩]
     have dX := And.intro dX (And.intro @Int.toNat_natCast (And.intro @d1 (And.intro @d2 @d3)));refine ab (dR fun K hK => ?_);(repeat refine eV ?_);have dK := And.intro @Int.toNat_natCast (And.intro @d1 (And.intro @d2 @d3));refine aa (hK _ (ax [7, 8, 10, 14, 15, 16, 36] ?_));clear hK K;refine dI ?_ ?_<;>intro hb
     ·have dX := And.intro dX (@Int.toNat_natCast);refine dR fun K hK => ?_;(repeat refine eV ?_);have dK := @Int.toNat_natCast;refine aa (hK _ (ax [7, 8, 14, 15, 16] ?_));clear hK K;refine dR fun K hK => ?_;(repeat refine eV ?_);have dK := And.intro @bt @hy;refine aa (hK _ ?_);clear hK K;show ∃ x, _ ∧ _ ∧ Weak _ _;refine ⟨k + 1, ?_, ?_, aq [7, 8, 14, 15, 16]⟩
      ·omega
      ·omega
     ·cases hb
    ·have d3 : decide (gi D w < B) = false := decide_eq_false c3;have hy : nrF D S (k + 1) = B := by rw [hsucc, if_neg (fun h => by rcases h.2 with h | h; exact c2 h; exact c3 h)]
     have dX := And.intro dX (And.intro @Int.toNat_natCast (And.intro @d1 (And.intro @d2 @d3)));refine ab (dR fun K hK => ?_);(repeat refine eV ?_);have dK := And.intro @Int.toNat_natCast (And.intro @d1 (And.intro @d2 @d3));refine aa (hK _ (ax [7, 8, 10, 14, 15, 16, 36] ?_));clear hK K;refine dI ?_ ?_<;>intro hb
     ·cases hb
     ·refine af ?_;show DW _ _ _ _ _;refine dR fun K hK => ?_;(repeat refine eV ?_);have dK := And.intro @bt @hy;refine aa (hK _ ?_);clear hK K;show ∃ x, _ ∧ _ ∧ Weak _ _;refine ⟨k + 1, ?_, ?_, aq [7, 8, 14, 15, 16]⟩
      ·omega
      ·omega
  ·have d1 : decide (gi D w ≥ 0) = false := decide_eq_false c1;have hy : nrF D S (k + 1) = B := by rw [hsucc, if_neg (fun h => c1 h.1)]
   have dX := And.intro dX (And.intro @Int.toNat_natCast @d1);refine ab (dR fun K hK => ?_);(repeat refine eV ?_);have dK := And.intro @Int.toNat_natCast @d1;refine aa (hK _ (ax [7, 8, 10, 14, 15, 16, 36] ?_));clear hK K;refine dI ?_ ?_<;>intro hb
   ·cases hb
   ·refine af ?_;show DW _ _ _ _ _;refine dR fun K hK => ?_;(repeat refine eV ?_);have dK := And.intro @bt @hy;refine aa (hK _ ?_);clear hK K;show ∃ x, _ ∧ _ ∧ Weak _ _;refine ⟨k + 1, ?_, ?_, aq [7, 8, 14, 15, 16]⟩
    ·omega
    ·omega
 ·have hk2 : k = S.length := by
   have : ¬ k < S.length := by simpa using hb
   omega
  refine ao ?_;refine bb [7] (by simp only [ac, pZ, simprocAttr]; exact rfl) ?_;refine ab (dR fun K hK => ?_);(repeat refine eV ?_);refine aa (hK _ (wK [6] ?_));clear hK K;exact ak (an Tryz.results170 (.one (.plain _ _ rfl)) (by decide) (by rw [hk2]))
theorem S6 {N : Net} {S : List Int} (hs : Sym N.ends) (hS : ∀ x ∈ S, 0 ≤ x ∧ x < N.ends.length) {v : Nat} (hv : v < N.ends.length) : inB (nrF (bo N v) S S.length) 0 1 = lu N S v := by
 rw [Oz, F7 hs hS hv]
theorem Sx {N : Net} {S : List Int} {v : Nat} (hv : v < N.ends.length) (h : lu N S v = false) : i6 N S = false := by
 cases h2 : i6 N S with
 | false => rfl
 | true => rw [oe.1 h2 v hv] at h; cases h
theorem Hj (f : NF) (N : Net) (o : Bool) (t : TypeId) (S : List Int) (hg : bj N = true) (hS : ∀ x ∈ S, 0 ≤ x ∧ x < N.ends.length) (hl : S.length ≤ 1000000) : DCalls Tryz.prog 108 [.agg (bi f N), .c (.sl o t 1 (S.map iC)), .c (.p (.int .i64 1))] (fun r => r = [.c (.p (.bool (i6 N S)))]) := by
 obtain ⟨hs, hn, hids, hdg⟩ := cp hg;refine am Tryz.func108 rfl (by rw [Tryz.ntmps108]; simp) fun w0 => ?_;rw [Tryz.ntmps108];have dX := mj;simp only [b4, bd, Arg.av, bi, b7, ints, ends];refine ab (dR fun K hK => ?_);(repeat refine eV ?_);refine aa (hK _ (wK [1, 2, 3] ?_));clear hK K;refine ab ?_;refine ab (dR fun K hK => ?_);(repeat refine eV ?_);refine aa (hK _ (wK [1, 2, 3, 10, 11] ?_));clear hK K;refine ae ?_;refine au (X := Nat) (fun k => k ≤ N.ends.length ∧ ∀ v, v < k → lu N S v = true) (fun k => [(11, .c (.p (.int .i64 k)))]) (fun k => []) (fun k => N.ends.length - k) 0 ⟨Nat.zero_le _, fun v hv => absurd hv (Nat.not_lt_zero v)⟩ (by first | rfl | (simp only [ac, pZ, simprocAttr, Int.natCast_zero] <;> rfl)) ?_;rintro k ⟨hk, hr⟩;intro E hE;simp only [ac, pZ, simprocAttr] at hE;subst hE;refine ab (dR fun K hK => ?_);(repeat refine eV ?_);refine aa (hK _ (wK [1, 2, 3, 10, 11, 12] ?_));clear hK K;refine ab (dI (fun hb => ?_) (fun hb => ?_))
 ·have hk1 : k < N.ends.length := by simpa using hb
  have hcd := S6 hs hS hk1;refine af ?_;show DW _ _ _ _ _;refine ab (ae ?_);refine ab (dR fun K hK => ?_);(repeat refine eV ?_);refine aa (hK _ (wK [1, 2, 3, 7, 10, 11] ?_));clear hK K;refine ab (dR fun K hK => ?_);(repeat refine eV ?_);refine cL rfl ⟨rfl, _, rfl⟩ (by omega) (by first | exact C9 | exact qe) (Jx ⟨false, f.t1, f.o2, f.t2, false, f.t3, false, f.t4⟩ N o t S k hg hk1 hS hl) ?_;rintro _ rfl;(repeat refine eV ?_);refine cL rfl ⟨rfl, _, rfl⟩ (by omega) (by first | exact C9 | exact qe) (uq (nrF (bo N k) S S.length) 0 1) ?_;rintro _ rfl;(repeat refine eV ?_);have dK := @hcd;refine aa (hK _ (ax [1, 2, 3, 10, 11, 20] ?_));clear hK K;refine dI ?_ ?_<;>intro hb
  ·have hno : i6 N S = false := Sx hk1 (by simpa using hb);refine ab (dR fun K hK => ?_);(repeat refine eV ?_);refine aa (hK _ (wK [6] ?_));clear hK K;exact ak (an Tryz.results108 (.one (.plain _ _ rfl)) (by decide) (by rw [hno]))
  ·have hyes : lu N S k = true := by simpa using hb
   refine af ?_;show DW _ _ _ _ _;refine dR fun K hK => ?_;(repeat refine eV ?_);have dK := @bt;refine aa (hK _ ?_);clear hK K;show ∃ x, _ ∧ _ ∧ Weak _ _;refine ⟨k + 1, ?_, ?_, aq [1, 2, 3, 10, 11]⟩
   ·refine ⟨hk1, fun v hv => ?_⟩
    by_cases h : v = k
    ·rw [h]; exact hyes
    ·exact hr v (by omega)
   ·omega
 ·have hk2 : k = N.ends.length := by
   have : ¬ k < N.ends.length := by simpa using hb
   omega
  have hyes : i6 N S = true := oe.2 (hk2 ▸ hr);refine ao ?_;refine bb [] (by simp only [ac, pZ, simprocAttr]; exact rfl) ?_;refine ab (dR fun K hK => ?_);(repeat refine eV ?_);refine aa (hK _ (wK [6] ?_));clear hK K;exact ak (an Tryz.results108 (.one (.plain _ _ rfl)) (by decide) (by rw [hyes]))
theorem LeastS.size_le {good : List Int → Bool} {n k r : Nat} (h : LeastS good n k r) : k ≤ n := by
 have := h.lt
 by_cases hk : n < k
 ·rw [jh hk] at this; omega
 ·omega
theorem Ok {n k r : Nat} (hr : r < bin n k) : ∀ x ∈ sbs n 0 k r, 0 ≤ x ∧ x < (n : Int) := fun x hx => by
 have := (qp n 0 k r hr).2.2 x hx;omega
theorem LeastS.last {good : List Int → Bool} {n k r : Nat} (h : LeastS good n k r) (hall : ∀ k' r', k' < n → r' < bin n k' → good (sbs n 0 k' r') = false) : sbs n 0 k r = dh n := by
 have hk := h.size_le
 have hkn : k = n := by
  by_cases hlt : k < n
  ·have := hall k r hlt h.lt;rw [h.ok] at this; cases this
  ·omega
 have hr := h.lt;rw [hkn, tw] at hr;rw [hkn, show r = 0 by omega, Eo]
theorem rz (f : NF) (N : Net) (k r : Nat) (hg : bj N = true) (h14 : N.ends.length ≤ 14) (h : LeastS (i6 N) N.ends.length k r) : DCalls Tryz.prog 28 [.agg (bi f N)] (fun rr => rr = [.own false [.sl true 3 1 ((sbs N.ends.length 0 k r).map iC)], .c (.p (.bool true))]) := by
 obtain ⟨hs, hn, hids, hdg⟩ := cp hg;have c1 : decide ((N.ends.length : Int) > 14) = false := decide_eq_false (by omega);refine am Tryz.func28 rfl (by rw [Tryz.ntmps28]; simp) fun w0 => ?_;rw [Tryz.ntmps28];have dX := mj;simp only [b4, bd, Arg.av, bi, b7, ints, ends];refine ab (dR fun K hK => ?_);(repeat refine eV ?_);refine aa (hK _ (wK [1] ?_));clear hK K;refine ab ?_;refine ab (dR fun K hK => ?_);(repeat refine eV ?_);refine cL rfl ⟨rfl, _, rfl⟩ (by omega) (by first | exact mt) (ez ⟨false, f.t1, f.o2, f.t2, false, f.t3, false, f.t4⟩ N (by omega)) ?_;rintro _ rfl;(repeat refine eV ?_);have dX := And.intro dX (And.intro @hg @c1);(repeat refine eV ?_);have dK := And.intro @hg @c1;refine aa (hK _ (ax [1, 16] ?_));clear hK K;refine dI ?_ ?_<;>intro hb
 ·cases hb
 ·refine af ?_;show DW _ _ _ _ _;refine ab (dR fun K hK => ?_);(repeat refine eV ?_);refine aa (hK _ (wK [1, 4] ?_));clear hK K;refine ab ?_;refine ab (dR fun K hK => ?_);(repeat refine eV ?_);refine aa (hK _ (wK [1, 4, 20, 21] ?_));clear hK K;refine ae ?_;refine au (X := Nat) (fun s => s ≤ N.ends.length ∧ ∀ k' r', k' < s → r' < bin N.ends.length k' → i6 N (sbs N.ends.length 0 k' r') = false) (fun s => [(21, .c (.p (.int .i64 s)))]) (fun s => []) (fun s => N.ends.length - s) 0 ⟨Nat.zero_le _, fun k' r' hk' => absurd hk' (Nat.not_lt_zero k')⟩ (by first | rfl | (simp only [ac, pZ, simprocAttr, Int.natCast_zero] <;> rfl)) ?_;rintro s ⟨hs1, hs2⟩;intro E hE;simp only [ac, pZ, simprocAttr] at hE;subst hE;refine ab (dR fun K hK => ?_);(repeat refine eV ?_);refine aa (hK _ (wK [1, 4, 20, 21, 22] ?_));clear hK K;refine ab (dI (fun hb => ?_) (fun hb => ?_))
  ·have hsn : s < N.ends.length := by simpa using hb
   have hbl := vy (n := N.ends.length) (k := s) h14;refine af ?_;show DW _ _ _ _ _;refine ab (ae ?_);refine ab (dR fun K hK => ?_);(repeat refine eV ?_);refine aa (hK _ (wK [1, 4, 5, 20, 21] ?_));clear hK K;refine ab (dR fun K hK => ?_);(repeat refine eV ?_);refine cL rfl ⟨rfl, _, rfl⟩ (by omega) (by first | exact Pt) (zy N.ends.length s (by omega) h14) ?_;rintro _ rfl;(repeat refine eV ?_);refine aa (hK _ (wK [1, 4, 5, 20, 21, 26, 27] ?_));clear hK K;refine ae ?_;refine au (X := Nat) (fun q => q ≤ bin N.ends.length s ∧ ∀ r', r' < q → i6 N (sbs N.ends.length 0 s r') = false) (fun q => [(27, .c (.p (.int .i64 q)))]) (fun q => []) (fun q => bin N.ends.length s - q) 0 ⟨Nat.zero_le _, fun r' hr' => absurd hr' (Nat.not_lt_zero r')⟩ (by first | rfl | (simp only [ac, pZ, simprocAttr, Int.natCast_zero] <;> rfl)) ?_;rintro q ⟨hq1, hq2⟩;intro E hE;simp only [ac, pZ, simprocAttr] at hE;subst hE;refine ab (dR fun K hK => ?_);(repeat refine eV ?_);refine aa (hK _ (wK [1, 4, 5, 20, 21, 26, 27, 28] ?_));clear hK K;refine ab (dI (fun hb => ?_) (fun hb => ?_))
   ·have hqb : q < bin N.ends.length s := by simpa using hb
    have hsl : (sbs N.ends.length 0 s q).length = s := (qp _ _ _ _ hqb).1;obtain ⟨S, hS⟩ : ∃ S, S = sbs N.ends.length 0 s q := ⟨_, rfl⟩;refine af ?_;show DW _ _ _ _ _;refine ab (ae ?_);refine ab (dR fun K hK => ?_);(repeat refine eV ?_);refine aa (hK _ (wK [1, 4, 5, 6, 20, 21, 26, 27] ?_));clear hK K;refine ab (dR fun K hK => ?_);(repeat refine eV ?_);refine cL rfl ⟨rfl, _, rfl⟩ (by omega) (by first | exact U9) (Hg N.ends.length s q hqb h14) ?_;rintro _ rfl;(repeat refine eV ?_);have dK := (Eq.symm hS);refine aa (hK _ (ax [1, 4, 5, 7, 20, 21, 26, 27] ?_));clear hK K;rw [← hS] at hsl;refine ab (dR fun K hK => ?_);(repeat refine eV ?_);refine cL rfl ⟨rfl, _, rfl⟩ (by omega) (by first | exact Ps) (mv ⟨false, f.t1, f.o2, f.t2, false, f.t3, false, f.t4⟩ N true 3 S hg (by omega)) ?_;rintro _ rfl;(repeat refine eV ?_);refine aa (hK _ (wK [1, 4, 5, 7, 20, 21, 26, 27, 36] ?_));clear hK K;refine dI ?_ ?_<;>intro hb
    ·have hL : LeastS (i6 N) N.ends.length s q := ⟨hqb, by rw [← hS]; exact hb, hq2, hs2⟩;obtain ⟨e1, e2⟩ := hL.unique h;refine ab (dR fun K hK => ?_);(repeat refine eV ?_);refine aa (hK _ (wK [2, 3] ?_));clear hK K;exact ak (an Tryz.results28 (.two (.own _ _ _ _ rfl rfl (own1 (az _ _))) (.plain _ _ rfl)) (by decide) (by rw [hS, e1, e2]))
    ·refine af ?_;show DW _ _ _ _ _;refine dR fun K hK => ?_;(repeat refine eV ?_);have dK := @bt;refine aa (hK _ ?_);clear hK K;show ∃ x, _ ∧ _ ∧ Weak _ _;refine ⟨q + 1, ?_, ?_, aq [1, 4, 5, 20, 21, 26, 27]⟩
     ·refine ⟨hqb, fun r' hr' => ?_⟩
      by_cases h9 : r' = q
      ·rw [h9, ← hS]; exact hb
      ·exact hq2 r' (by omega)
     ·omega
   ·have hqe : q = bin N.ends.length s := by
     have : ¬ q < bin N.ends.length s := by simpa using hb
     omega
    refine ao ?_;refine bb [1, 4, 20, 21] (by simp only [ac, pZ, simprocAttr]; exact rfl) ?_;refine dR fun K hK => ?_;(repeat refine eV ?_);have dK := @bt;refine aa (hK _ ?_);clear hK K;show ∃ x, _ ∧ _ ∧ Weak _ _;refine ⟨s + 1, ?_, ?_, aq [1, 4, 20, 21]⟩
    ·refine ⟨hsn, fun k' r' hk' hr' => ?_⟩
     by_cases h9 : k' = s
     ·subst h9; exact hq2 r' (by omega)
     ·exact hs2 k' r' (by omega) hr'
    ·omega
  ·have hse : s = N.ends.length := by
    have : ¬ s < N.ends.length := by simpa using hb
    omega
   have hla := h.last (hse ▸ hs2);refine ao ?_;refine bb [1, 4] (by simp only [ac, pZ, simprocAttr]; exact rfl) ?_;refine ab (dR fun K hK => ?_);(repeat refine eV ?_);refine cL rfl ⟨rfl, _, rfl⟩ (by omega) (by first | exact qf) (nl N.ends.length (by omega)) ?_;rintro _ rfl;(repeat refine eV ?_);refine aa (hK _ (wK [2, 3] ?_));clear hK K;exact ak (an Tryz.results28 (.two (.own _ _ _ _ rfl rfl (own1 (az _ _))) (.plain _ _ rfl)) (by decide) (by rw [hla]))
theorem ry (f : NF) (N : Net) (k r : Nat) (hg : bj N = true) (h14 : N.ends.length ≤ 14) (h : LeastS (i6 N) N.ends.length k r) : DCalls Tryz.prog 29 [.agg (bi f N)] (fun rr => rr = [.own false [.sl true 3 1 ((sbs N.ends.length 0 k r).map iC)], .c (.p (.bool true))]) := by
 obtain ⟨hs, hn, hids, hdg⟩ := cp hg;have hn1 : 1 ≤ N.ends.length := by omega
 have h1c : ((1 : Nat) : Int) = 1 := rfl;have c1 : decide ((N.ends.length : Int) > 14) = false := decide_eq_false (by omega);refine am Tryz.func29 rfl (by rw [Tryz.ntmps29]; simp) fun w0 => ?_;rw [Tryz.ntmps29];have dX := mj;simp only [b4, bd, Arg.av, bi, b7, ints, ends];refine ab (dR fun K hK => ?_);(repeat refine eV ?_);refine aa (hK _ (wK [1] ?_));clear hK K;refine ab ?_;refine ab (dR fun K hK => ?_);(repeat refine eV ?_);refine cL rfl ⟨rfl, _, rfl⟩ (by omega) (by first | exact Bu) (ns ⟨false, f.t1, f.o2, f.t2, false, f.t3, false, f.t4⟩ N) ?_;rintro _ rfl;(repeat refine eV ?_);have dX := And.intro dX (And.intro @hg @c1);(repeat refine eV ?_);have dK := And.intro @hg @c1;refine aa (hK _ (ax [1, 15] ?_));clear hK K;refine dI ?_ ?_<;>intro hb
 ·cases hb
 ·refine af ?_;show DW _ _ _ _ _;refine ab ?_;refine ab (dR fun K hK => ?_);(repeat refine eV ?_);refine aa (hK _ (wK [1, 4] ?_));clear hK K;refine ae ?_;refine au (X := Nat) (fun s => 1 ≤ s ∧ s ≤ N.ends.length + 1 ∧ ∀ k' r', k' < s → r' < bin N.ends.length k' → i6 N (sbs N.ends.length 0 k' r') = false) (fun s => [(4, .c (.p (.int .i64 s)))]) (fun s => []) (fun s => N.ends.length + 1 - s) 1 ⟨Nat.le_refl 1, by omega, fun k' r' hk' hr' => by rw [show k' = 0 by omega, se]; exact Mv hn1⟩ (by first | rfl | (simp only [ac, pZ, simprocAttr, Int.natCast_zero, h1c] <;> rfl)) ?_;rintro s ⟨hs0, hs1, hs2⟩;intro E hE;simp only [ac, pZ, simprocAttr] at hE;subst hE;refine ab ?_;refine ab (dR fun K hK => ?_);(repeat refine eV ?_);refine aa (hK _ (wK [1, 4, 20] ?_));clear hK K;refine dI ?_ ?_<;>intro hb
  ·have hsn : s ≤ N.ends.length := by
    have h9 : (s : Int) ≤ (N.ends.length : Int) := by simpa using hb
    omega
   have hbl := vy (n := N.ends.length) (k := s) h14;refine af ?_;show DW _ _ _ _ _;refine ab (ae ?_);refine ab (dR fun K hK => ?_);(repeat refine eV ?_);refine aa (hK _ (wK [1, 4, 5] ?_));clear hK K;refine ae ?_;refine au (X := Nat) (fun q => q ≤ bin N.ends.length s ∧ ∀ r', r' < q → i6 N (sbs N.ends.length 0 s r') = false) (fun q => [(5, .c (.p (.int .i64 q)))]) (fun q => []) (fun q => bin N.ends.length s - q) 0 ⟨Nat.zero_le _, fun r' hr' => absurd hr' (Nat.not_lt_zero r')⟩ (by first | rfl | (simp only [ac, pZ, simprocAttr, Int.natCast_zero] <;> rfl)) ?_;rintro q ⟨hq1, hq2⟩;intro E hE;simp only [ac, pZ, simprocAttr] at hE;subst hE;refine ab ?_;refine ab (dR fun K hK => ?_);(repeat refine eV ?_);refine cL rfl ⟨rfl, _, rfl⟩ (by omega) (by first | exact Pr) (yw N.ends.length s hsn h14) ?_;rintro _ rfl;(repeat refine eV ?_);refine aa (hK _ (wK [1, 4, 5, 29] ?_));clear hK K;refine dI ?_ ?_<;>intro hb
   ·have hqb : q < bin N.ends.length s := by simpa using hb
    have hsl : (sbs N.ends.length 0 s q).length = s := (qp _ _ _ _ hqb).1;have hsi := Ok hqb;obtain ⟨S, hS⟩ : ∃ S, S = sbs N.ends.length 0 s q := ⟨_, rfl⟩;refine af ?_;show DW _ _ _ _ _;refine ab (ae ?_);refine ab (dR fun K hK => ?_);(repeat refine eV ?_);refine cL rfl ⟨rfl, _, rfl⟩ (by omega) (by first | exact U8) (Uw N.ends.length s q hqb h14) ?_;rintro _ rfl;(repeat refine eV ?_);have dK := (Eq.symm hS);refine aa (hK _ (ax [1, 4, 5, 6] ?_));clear hK K;rw [← hS] at hsl hsi;refine ab (dR fun K hK => ?_);(repeat refine eV ?_);refine cL rfl ⟨rfl, _, rfl⟩ (by omega) (by first | exact U7) (Hj ⟨false, f.t1, f.o2, f.t2, false, f.t3, false, f.t4⟩ N true 3 S hg hsi (by omega)) ?_;rintro _ rfl;(repeat refine eV ?_);refine aa (hK _ (wK [1, 4, 5, 6, 40] ?_));clear hK K;refine dI ?_ ?_<;>intro hb
    ·have hL : LeastS (i6 N) N.ends.length s q := ⟨hqb, by rw [← hS]; exact hb, hq2, hs2⟩;obtain ⟨e1, e2⟩ := hL.unique h;refine ab (dR fun K hK => ?_);(repeat refine eV ?_);refine aa (hK _ (wK [2, 3] ?_));clear hK K;exact ak (an Tryz.results29 (.two (.own _ _ _ _ rfl rfl (own1 (az _ _))) (.plain _ _ rfl)) (by decide) (by rw [hS, e1, e2]))
    ·refine af ?_;show DW _ _ _ _ _;refine dR fun K hK => ?_;(repeat refine eV ?_);have dK := @bt;refine aa (hK _ ?_);clear hK K;show ∃ x, _ ∧ _ ∧ Weak _ _;refine ⟨q + 1, ?_, ?_, aq [1, 4, 5]⟩
     ·refine ⟨hqb, fun r' hr' => ?_⟩
      by_cases h9 : r' = q
      ·rw [h9, ← hS]; exact hb
      ·exact hq2 r' (by omega)
     ·omega
   ·have hqe : q = bin N.ends.length s := by
     have : ¬ q < bin N.ends.length s := by simpa using hb
     omega
    refine ao ?_;refine bb [1, 4] (by simp only [ac, pZ, simprocAttr]; exact rfl) ?_;refine dR fun K hK => ?_;(repeat refine eV ?_);have dK := @bt;refine aa (hK _ ?_);clear hK K;show ∃ x, _ ∧ _ ∧ Weak _ _;refine ⟨s + 1, ?_, ?_, aq [1, 4]⟩
    ·refine ⟨by omega, by omega, fun k' r' hk' hr' => ?_⟩
     by_cases h9 : k' = s
     ·subst h9; exact hq2 r' (by omega)
     ·exact hs2 k' r' (by omega) hr'
    ·omega
  ·have hse : s = N.ends.length + 1 := by
    have h9 : ¬ (s : Int) ≤ (N.ends.length : Int) := by simpa using hb
    omega
   have hbad := hs2 k r (by have := h.size_le; omega) h.lt;rw [h.ok] at hbad;cases hbad
theorem px (f : NF) (N : Net) (hi : N.ids.length ≤ 2097152) (hn0 : N.ends.length ≤ 1000000) (h : (bj N && decide (N.ends.length ≤ 14)) = false) : DCalls Tryz.prog 28 [.agg (bi f N)] (fun r => r = [.own false [.sl true 3 1 (([] : List Int).map iC)], .c (.p (.bool false))]) := by
 refine am Tryz.func28 rfl (by rw [Tryz.ntmps28]; simp) fun w0 => ?_;rw [Tryz.ntmps28];have dX := mj;simp only [b4, bd, Arg.av, bi, b7, ints, ends];refine ab (dR fun K hK => ?_);(repeat refine eV ?_);refine aa (hK _ (wK [1] ?_));clear hK K;refine ab ?_;refine ab (dR fun K hK => ?_);(repeat refine eV ?_);refine cL rfl ⟨rfl, _, rfl⟩ (by omega) (by first | exact mt) (ez ⟨false, f.t1, f.o2, f.t2, false, f.t3, false, f.t4⟩ N hi) ?_;rintro _ rfl;(repeat refine eV ?_);obtain h1 | h1 := Bool.eq_false_or_eq_true (bj N)
 ·have c1 : decide ((N.ends.length : Int) > 14) = true := by
   rw [h1, Bool.true_and, decide_eq_false_iff_not] at h;exact decide_eq_true (by omega)
  have dX := And.intro dX (And.intro @h1 @c1);(repeat refine eV ?_);have dK := And.intro @h1 @c1;refine aa (hK _ (ax [1, 16] ?_));clear hK K;refine dI ?_ ?_<;>intro hb
  ·refine ab (dR fun K hK => ?_);(repeat refine eV ?_);refine aa (hK _ (wK [2, 3] ?_));clear hK K;refine ei 2 3 1 (by decide) (by simp only [ac, pZ, simprocAttr]) [2, 3] (by simp only [ac, pZ, simprocAttr]; exact rfl) ?_;exact ak (an Tryz.results28 (.two (.own _ _ _ _ rfl rfl (own1 (az _ []))) (.plain _ _ rfl)) (by decide) rfl)
  ·cases hb
 ·have dX := And.intro dX (@h1);(repeat refine eV ?_);have dK := @h1;refine aa (hK _ (ax [1, 16] ?_));clear hK K;refine dI ?_ ?_<;>intro hb
  ·refine ab (dR fun K hK => ?_);(repeat refine eV ?_);refine aa (hK _ (wK [2, 3] ?_));clear hK K;refine ei 2 3 1 (by decide) (by simp only [ac, pZ, simprocAttr]) [2, 3] (by simp only [ac, pZ, simprocAttr]; exact rfl) ?_;exact ak (an Tryz.results28 (.two (.own _ _ _ _ rfl rfl (own1 (az _ []))) (.plain _ _ rfl)) (by decide) rfl)
  ·cases hb
theorem pw (f : NF) (N : Net) (hi : N.ids.length ≤ 2097152) (hn0 : N.ends.length ≤ 1000000) (h : (bj N && decide (N.ends.length ≤ 14)) = false) : DCalls Tryz.prog 29 [.agg (bi f N)] (fun r => r = [.own false [.sl true 3 1 (([] : List Int).map iC)], .c (.p (.bool false))]) := by
 refine am Tryz.func29 rfl (by rw [Tryz.ntmps29]; simp) fun w0 => ?_;rw [Tryz.ntmps29];have dX := mj;simp only [b4, bd, Arg.av, bi, b7, ints, ends];refine ab (dR fun K hK => ?_);(repeat refine eV ?_);refine aa (hK _ (wK [1] ?_));clear hK K;refine ab ?_;refine ab (dR fun K hK => ?_);(repeat refine eV ?_);refine cL rfl ⟨rfl, _, rfl⟩ (by omega) (by first | exact Bu) (ns ⟨false, f.t1, f.o2, f.t2, false, f.t3, false, f.t4⟩ N) ?_;rintro _ rfl;(repeat refine eV ?_);obtain h1 | h1 := Bool.eq_false_or_eq_true (bj N)
 ·have c1 : decide ((N.ends.length : Int) > 14) = true := by
   rw [h1, Bool.true_and, decide_eq_false_iff_not] at h;exact decide_eq_true (by omega)
  have dX := And.intro dX (And.intro @h1 @c1);(repeat refine eV ?_);have dK := And.intro @h1 @c1;refine aa (hK _ (ax [1, 15] ?_));clear hK K;refine dI ?_ ?_<;>intro hb
  ·refine ab (dR fun K hK => ?_);(repeat refine eV ?_);refine aa (hK _ (wK [2, 3] ?_));clear hK K;refine ei 2 3 1 (by decide) (by simp only [ac, pZ, simprocAttr]) [2, 3] (by simp only [ac, pZ, simprocAttr]; exact rfl) ?_;exact ak (an Tryz.results29 (.two (.own _ _ _ _ rfl rfl (own1 (az _ []))) (.plain _ _ rfl)) (by decide) rfl)
  ·cases hb
 ·have dX := And.intro dX (@h1);(repeat refine eV ?_);have dK := @h1;refine aa (hK _ (ax [1, 15] ?_));clear hK K;refine dI ?_ ?_<;>intro hb
  ·refine ab (dR fun K hK => ?_);(repeat refine eV ?_);refine aa (hK _ (wK [2, 3] ?_));clear hK K;refine ei 2 3 1 (by decide) (by simp only [ac, pZ, simprocAttr]) [2, 3] (by simp only [ac, pZ, simprocAttr]; exact rfl) ?_;exact ak (an Tryz.results29 (.two (.own _ _ _ _ rfl rfl (own1 (az _ []))) (.plain _ _ rfl)) (by decide) rfl)
  ·cases hb
end
section
set_option maxHeartbeats 0
set_option maxRecDepth 8000
open Go Go.RowKit Go.Sort
def tC (b : Bool) : List C := [.p (.bool b)]
def bL (c : Nat → Bool) (n : Nat) : List (List C) := (List.range n).map fun w => tC (c w)
theorem ij (c : Nat → Bool) (n : Nat) : (bL c n).length = n := by simp [bL]
theorem kp {c : Nat → Bool} {n k : Nat} (h : k < n) : (bL c n).getD k [] = [.p (.bool (c k))] := by simp [bL, tC, h]
theorem sf {c : Nat → Bool} {n k : Nat} (h : k < n) : cd (bL c n) k 0 = some (.p (.bool (c k))) := bw.2 ⟨tC (c k), by simp [bL, h], rfl⟩
theorem Nb (n : Nat) : eb [.bool false] n = bL (fun _ => false) n := by
 apply List.ext_getElem?;intro j;simp only [eb, bL, tC, List.getElem?_replicate, List.getElem?_map, List.map_cons, List.map_nil]
 by_cases h : j < n
 ·rw [if_pos h, List.getElem?_range h]; rfl
 ·rw [if_neg h, List.getElem?_eq_none (by simp; omega)]; rfl
def N0 (c : Nat → Bool) (k : Nat) (b : Bool) (w : Nat) : Bool := if w = k then b else c w
theorem Xf (c : Nat → Bool) (n k : Nat) (b : Bool) : ((bL c n).modify k fun row => row.modify 0 fun _ => C.p (.bool b)) = bL (N0 c k b) n := by
 apply List.ext_getElem?;intro j;rw [List.getElem?_modify];simp only [bL, List.getElem?_map]
 by_cases hj : j < n
 ·rw [List.getElem?_range hj]
  by_cases h : k = j
  ·subst h; simp [tC, N0]
  ·have h2 : ¬ j = k := fun e => h e.symm;simp [tC, N0, h, h2]
 ·rw [List.getElem?_eq_none (by simp; omega)]; rfl
def zBRb31 := PLift.up (And.intro ap (And.intro bc (And.intro b9 (And.intro bg (And.intro ay (And.intro @if_pos.{1} (And.intro @b6 (And.intro @bq (And.intro @ba (And.intro @a8 (And.intro kc (And.intro r9 (And.intro @sf (And.intro @kp (And.intro @ij @trivial)))))))))))))))
theorem zp : type_of% zBRb31.down := zBRb31.down
theorem Q5 (o : Bool) (t : TypeId) (c : Nat → Bool) (n : Nat) (hn : n ≤ 1000000) : DCalls Tryz.prog 173 [.c (.sl o t 1 (bL c n)), .c (.p (.bool false))] (fun r => r = [.c (.p (.int .i64 (oa n fun j => !c j)))]) := by
 refine am Tryz.func173 rfl (by rw [Tryz.ntmps173]; simp) fun w0 => ?_;rw [Tryz.ntmps173];have dX := zp;simp only [b4, bd, Arg.av, bi, b7, ints, ends];refine ab (dR fun K hK => ?_);(repeat refine eV ?_);refine aa (hK _ (wK [0, 1] ?_));clear hK K;refine ab ?_;refine ab (dR fun K hK => ?_);(repeat refine eV ?_);refine aa (hK _ (wK [0, 1, 7, 8] ?_));clear hK K;refine ae ?_;refine au (X := Nat) (fun k => k ≤ n ∧ ∀ j, j < k → (!c j) = false) (fun k => [(8, .c (.p (.int .i64 k)))]) (fun k => []) (fun k => n - k) 0 ⟨Nat.zero_le _, fun j hj => absurd hj (Nat.not_lt_zero j)⟩ (by first | rfl | (simp only [ac, pZ, simprocAttr, Int.natCast_zero] <;> rfl)) ?_;rintro k ⟨hk, hne⟩;intro E hE;simp only [ac, pZ, simprocAttr] at hE;subst hE;refine ab (dR fun K hK => ?_);(repeat refine eV ?_);refine aa (hK _ (wK [0, 1, 7, 8, 9] ?_));clear hK K;refine ab (dI (fun hb => ?_) (fun hb => ?_))
 ·have hk1 : k < n := by simpa using hb
  obtain h1 | h1 := Bool.eq_false_or_eq_true (c k)
  ·refine af ?_;show DW _ _ _ _ _;refine ab (ae ?_);refine ab (dR fun K hK => ?_);(repeat refine eV ?_);refine aa (hK _ (wK [0, 1, 5, 7, 8] ?_));clear hK K;have dX := And.intro dX (@h1);refine ab (dR fun K hK => ?_);(repeat refine eV ?_);have dK := @h1;refine aa (hK _ (ax [0, 1, 5, 7, 8, 16] ?_));clear hK K;refine dI ?_ ?_<;>intro hb
   ·cases hb
   ·refine af ?_;show DW _ _ _ _ _;refine dR fun K hK => ?_;(repeat refine eV ?_);have dK := @bt;refine aa (hK _ ?_);clear hK K;show ∃ x, _ ∧ _ ∧ Weak _ _;refine ⟨k + 1, ?_, ?_, aq [0, 1, 7, 8]⟩
    ·refine ⟨hk1, fun j hj => ?_⟩
     by_cases h : j = k
     ·rw [h, h1]; rfl
     ·exact hne j (by omega)
    ·omega
  ·have hi : (oa n fun j => !c j) = k := uw hk1 (by rw [h1]; rfl) hne;refine af ?_;show DW _ _ _ _ _;refine ab (ae ?_);refine ab (dR fun K hK => ?_);(repeat refine eV ?_);refine aa (hK _ (wK [0, 1, 5, 7, 8] ?_));clear hK K;have dX := And.intro dX (@h1);refine ab (dR fun K hK => ?_);(repeat refine eV ?_);have dK := @h1;refine aa (hK _ (ax [0, 1, 5, 7, 8, 16] ?_));clear hK K;refine dI ?_ ?_<;>intro hb
   ·refine ab (dR fun K hK => ?_);(repeat refine eV ?_);refine aa (hK _ (wK [4] ?_));clear hK K;exact ak (an Tryz.results173 (.one (.plain _ _ rfl)) (by decide) (by rw [hi]))
   ·cases hb
 ·have hk2 : k = n := by
   have : ¬ k < n := by simpa using hb
   omega
  have hi : (oa n fun j => !c j) = -1 := ux (hk2 ▸ hne);refine ao ?_;refine bb [] (by simp only [ac, pZ, simprocAttr]; exact rfl) ?_;refine ab (dR fun K hK => ?_);(repeat refine eV ?_);refine aa (hK _ (wK [4] ?_));clear hK K;exact ak (an Tryz.results173 (.one (.plain _ _ rfl)) (by decide) (by rw [hi]))
theorem Gz (o : Bool) (t : TypeId) (c : Nat → Bool) (n : Nat) (hn : n ≤ 1000000) : DCalls Tryz.prog 112 [.c (.sl o t 1 (bL c n)), .c (.p (.bool false))] (fun r => r = [.c (.p (.bool (decide (0 ≤ oa n fun j => !c j))))]) := by
 refine am Tryz.func112 rfl (by rw [Tryz.ntmps112]; simp) fun w0 => ?_;rw [Tryz.ntmps112];have dX := zp;simp only [b4, bd, Arg.av, bi, b7, ints, ends];refine ab (dR fun K hK => ?_);(repeat refine eV ?_);refine aa (hK _ (wK [0, 1] ?_));clear hK K;refine ab (dR fun K hK => ?_)
 repeat (apply bz; (focus exact rfl); (focus (simp (disch := first | omega | (intros; contradiction)) only [ac, bl, pZ, simprocAttr, ap, bc, b9, bg, ay, if_pos, b6, bq, ba, a8, kc, r9, sf, kp, ij , C8]; exact rfl)))
 refine du rfl ⟨rfl, _, rfl⟩ (by omega) (by first | exact C8) (by simp (disch := first | omega | (intros; contradiction)) only [ac, bl, pZ, simprocAttr, ap, bc, b9, bg, ay, if_pos, b6, bq, ba, a8, kc, r9, sf, kp, ij , C8] <;> exact rfl) (Q5 o t c n hn) ?_;rintro _ rfl
 repeat (apply bz; (focus exact rfl); (focus (simp (disch := first | omega | (intros; contradiction)) only [ac, bl, pZ, simprocAttr, ap, bc, b9, bg, ay, if_pos, b6, bq, ba, a8, kc, r9, sf, kp, ij , C8]; exact rfl)))
 refine aa (hK _ (wK [4] ?_));clear hK K;exact ak (an Tryz.results112 (.one (.plain _ _ rfl)) (by decide) rfl)
theorem P4 {c : Nat → Bool} {n w : Nat} (hw : w < n) (h : c w = false) : decide (0 ≤ oa n fun j => !c j) = true := by
 obtain ⟨m, h1, h2, h3⟩ := zf (P := fun j => (!c j) = true) w (by rw [h]; rfl);rw [uw (m := m) (by omega) h2 fun j hj => by simpa using h3 j hj];exact decide_eq_true (by omega)
theorem Sd {c : Nat → Bool} {n : Nat} (h : ∀ w, w < n → c w = true) : decide (0 ≤ oa n fun j => !c j) = false := by
 rw [ux fun j hj => by rw [h j hj]; rfl];rfl
def gnT (B : List Int) (c : Nat → Bool) (k : Nat) : Nat := ((B.take k).filter fun x => !c x.toNat).length
theorem Kn {B : List Int} {c : Nat → Bool} {k : Nat} (hk : k < B.length) (h : c (gi B k).toNat = false) : gnT B c (k + 1) = gnT B c k + 1 := by
 unfold gnT;rw [xd hk, List.filter_append, List.length_append];simp [h]
theorem P6 {B : List Int} {c : Nat → Bool} {k : Nat} (hk : k < B.length) (h : c (gi B k).toNat = true) : gnT B c (k + 1) = gnT B c k := by
 unfold gnT;rw [xd hk, List.filter_append, List.length_append];simp [h]
theorem Is (B : List Int) (c : Nat → Bool) (k : Nat) : gnT B c k ≤ k := by
 unfold gnT;have h := List.length_filter_le (fun x : Int => !c x.toNat) (B.take k);rw [List.length_take] at h; omega
theorem Dj {ball : Nat → List Int} {c : Nat → Bool} {v : Nat} : gnT (ball v) c (ball v).length = gnD ball c v := by unfold gnT gnD; rw [List.take_length]
theorem Fj (f : NF) (N : Net) (v : Nat) (hg : bj N = true) (hv : v < N.ends.length) : DCalls Tryz.prog 115 [.agg (bi f N), .c (.p (.int .i64 v)), .c (.p (.int .i64 1))] (fun rr => rr = [.own false [.sl true 3 1 ((aw N v).map iC)]]) := by
 obtain ⟨hs, hn, hids, hdg⟩ := cp hg;have hdl := (c9 hs hv).len;obtain ⟨p, hp⟩ : ∃ p : Nat → Bool, p = fun j => inB (gi (bo N v) j) 0 1 := ⟨_, rfl⟩;have hbl : aw N v = lh p N.ends.length := by rw [hp]; rfl
 refine am Tryz.func115 rfl (by rw [Tryz.ntmps115]; simp) fun w0 => ?_;rw [Tryz.ntmps115];have dX := zp;simp only [b4, bd, Arg.av, bi, b7, ints, ends];refine ab (dR fun K hK => ?_);(repeat refine eV ?_);refine aa (hK _ (wK [1, 2, 3] ?_));clear hK K;refine ab (dR fun K hK => ?_);(repeat refine eV ?_);refine aa (hK _ (wK [1, 2, 3, 7] ?_));clear hK K;refine ab ?_;refine ab (dR fun K hK => ?_);(repeat refine eV ?_);refine cL rfl ⟨rfl, _, rfl⟩ (by omega) (by first | exact Ph) (Fi ⟨false, f.t1, f.o2, f.t2, false, f.t3, false, f.t4⟩ N v hs hv (by omega) hdg) ?_;rintro _ rfl;(repeat refine eV ?_);refine aa (hK _ (wK [2, 7, 12, 13, 14] ?_));clear hK K;refine ae ?_;refine ei 7 3 1 (by decide) (by simp only [ac, pZ, simprocAttr]) [2, 7, 12, 13, 14] (by simp only [ac, pZ, simprocAttr]; exact rfl) ?_;refine au (X := Nat) (fun k => k ≤ N.ends.length) (fun k => [(14, .c (.p (.int .i64 k)))]) (fun k => [((7, 0), ⟨none, [.sl true 3 1 ((lh p k).map iC)]⟩)]) (fun k => N.ends.length - k) 0 (Nat.zero_le _) (by first | rfl | (simp only [ac, pZ, simprocAttr, Int.natCast_zero] <;> rfl)) ?_;rintro k hk;intro E hE;simp only [ac, pZ, simprocAttr] at hE;subst hE;refine ab (dR fun K hK => ?_);(repeat refine eV ?_);refine aa (hK _ (wK [2, 7, 12, 13, 14, 15] ?_));clear hK K;refine ab (dI (fun hb => ?_) (fun hb => ?_))
 ·have hkd : k < (bo N v).length := by simpa using hb
  have hpk : inB (gi (bo N v) k) 0 1 = p k := by rw [hp]
  have hpl := Eu p k;refine af ?_;show DW _ _ _ _ _;refine ab (ae ?_);refine ab (dR fun K hK => ?_);(repeat refine eV ?_);refine aa (hK _ (wK [2, 7, 8, 9, 12, 13, 14] ?_));clear hK K;refine ab (dR fun K hK => ?_);(repeat refine eV ?_);refine cL rfl ⟨rfl, _, rfl⟩ (by omega) (by first | exact qe) (uq (gi (bo N v) k) 0 1) ?_;rintro _ rfl;(repeat refine eV ?_);have dK := @hpk;refine aa (hK _ (ax [2, 7, 8, 12, 13, 14, 21] ?_));clear hK K;refine dI ?_ ?_<;>intro hb
  ·have hns := Bk (p := p) (k := k) hb;refine dR fun K hK => ?_;(repeat refine eV ?_);have dK := @ef;refine aa (hK _ (ax [2, 7, 12, 13, 14] ?_));clear hK K;refine dR fun K hK => ?_;(repeat refine eV ?_);have dK := And.intro @bt @hns;refine aa (hK _ ?_);clear hK K;show ∃ x, _ ∧ _ ∧ Weak _ _;refine ⟨k + 1, ?_, ?_, aq [2, 7, 12, 13, 14]⟩
   ·omega
   ·omega
  ·have hns := Et (p := p) (k := k) hb;refine af ?_;show DW _ _ _ _ _;refine dR fun K hK => ?_;(repeat refine eV ?_);have dK := And.intro @bt @hns;refine aa (hK _ ?_);clear hK K;show ∃ x, _ ∧ _ ∧ Weak _ _;refine ⟨k + 1, ?_, ?_, aq [2, 7, 12, 13, 14]⟩
   ·omega
   ·omega
 ·have hk2 : k = N.ends.length := by
   have : ¬ k < (bo N v).length := by simpa using hb
   omega
  refine ao ?_;refine bb [7] (by simp only [ac, pZ, simprocAttr]; exact rfl) ?_;refine ab (dR fun K hK => ?_);(repeat refine eV ?_);refine aa (hK _ (wK [6] ?_));clear hK K;exact ak (an Tryz.results115 (.one (.own _ _ _ _ rfl rfl (own1 (az _ _)))) (by decide) (by rw [hk2, hbl]))
theorem oo (N : Net) (v : Nat) : (aw N v).length ≤ N.ends.length := Eu _ _
theorem ye (f : NF) (N : Net) (o : Bool) (t : TypeId) (c : Nat → Bool) (v : Nat) (hg : bj N = true) (hv : v < N.ends.length) : DCalls Tryz.prog 114 [.agg (bi f N), .c (.sl o t 1 (bL c N.ends.length)), .c (.p (.int .i64 v))] (fun r => r = [.c (.p (.int .i64 (gnD (aw N) c v : Nat)))]) := by
 obtain ⟨hs, hn, hids, hdg⟩ := cp hg;have hbl := oo N v;have hbm := f0 (N := N) v;have hal := Dj (ball := aw N) (c := c) (v := v);obtain ⟨B, hB⟩ : ∃ B, B = aw N v := ⟨_, rfl⟩;rw [← hB] at hbl hbm hal;refine am Tryz.func114 rfl (by rw [Tryz.ntmps114]; simp) fun w0 => ?_;rw [Tryz.ntmps114];have dX := zp;simp only [b4, bd, Arg.av, bi, b7, ints, ends];refine ab (dR fun K hK => ?_);(repeat refine eV ?_);refine aa (hK _ (wK [1, 2, 3] ?_));clear hK K;refine ab (dR fun K hK => ?_);(repeat refine eV ?_);refine aa (hK _ (wK [1, 2, 3, 7] ?_));clear hK K;refine ab ?_;refine ab (dR fun K hK => ?_);(repeat refine eV ?_);refine cL rfl ⟨rfl, _, rfl⟩ (by omega) (by first | exact Pn) (Fj ⟨false, f.t1, f.o2, f.t2, false, f.t3, false, f.t4⟩ N v hg hv) ?_;rintro _ rfl;(repeat refine eV ?_);have dK := (Eq.symm hB);refine aa (hK _ (ax [1, 7, 12, 13, 14] ?_));clear hK K;refine ae ?_;refine au (X := Nat) (fun k => k ≤ B.length) (fun k => [(7, .c (.p (.int .i64 (gnT B c k : Nat)))), (14, .c (.p (.int .i64 k)))]) (fun k => []) (fun k => B.length - k) 0 (Nat.zero_le _) (by first | rfl | (simp only [ac, pZ, simprocAttr, Int.natCast_zero] <;> rfl)) ?_;rintro k hk;intro E hE;simp only [ac, pZ, simprocAttr] at hE;subst hE;refine ab (dR fun K hK => ?_);(repeat refine eV ?_);refine aa (hK _ (wK [1, 7, 12, 13, 14, 15] ?_));clear hK K;refine ab (dI (fun hb => ?_) (fun hb => ?_))
 ·have hk1 : k < B.length := by simpa using hb
  obtain ⟨w, hw, hwl⟩ : ∃ w : Nat, gi B k = w ∧ w < N.ends.length := by
   have h := hbm (gi B k) (by rw [bm hk1]; exact List.getElem_mem hk1);exact ⟨(gi B k).toNat, by omega, by omega⟩
  have hle := Is B c k;have hy := Kn (c := c) hk1;have hno := P6 (c := c) hk1;rw [hw, Int.toNat_natCast] at hy hno;refine af ?_;show DW _ _ _ _ _;refine ab (ae ?_);have dX := And.intro dX (@hw);refine ab (dR fun K hK => ?_);(repeat refine eV ?_);have dK := @hw;refine aa (hK _ (ax [1, 7, 9, 12, 13, 14] ?_));clear hK K;have dX := And.intro dX (@Int.toNat_natCast);refine ab (dR fun K hK => ?_);(repeat refine eV ?_);have dK := @Int.toNat_natCast;refine aa (hK _ (ax [1, 7, 12, 13, 14, 22] ?_));clear hK K;obtain h1 | h1 := Bool.eq_false_or_eq_true (c w)
  ·have hn1 := hno h1;rw [h1];refine dI ?_ ?_<;>intro hb
   ·cases hb
   ·refine af ?_;show DW _ _ _ _ _;refine dR fun K hK => ?_;(repeat refine eV ?_);have dK := And.intro @bt @hn1;refine aa (hK _ ?_);clear hK K;show ∃ x, _ ∧ _ ∧ Weak _ _;refine ⟨k + 1, ?_, ?_, aq [1, 7, 12, 13, 14]⟩
    ·omega
    ·omega
  ·have hn1 := hy h1;rw [h1];refine dI ?_ ?_<;>intro hb
   ·refine dR fun K hK => ?_;(repeat refine eV ?_);have dK := @bt;refine aa (hK _ (ax [1, 7, 12, 13, 14] ?_));clear hK K;refine dR fun K hK => ?_;(repeat refine eV ?_);have dK := And.intro @bt @hn1;refine aa (hK _ ?_);clear hK K;show ∃ x, _ ∧ _ ∧ Weak _ _;refine ⟨k + 1, ?_, ?_, aq [1, 7, 12, 13, 14]⟩
    ·omega
    ·omega
   ·cases hb
 ·have hk2 : k = B.length := by
   have : ¬ k < B.length := by simpa using hb
   omega
  refine ao ?_;refine bb [7] (by simp only [ac, pZ, simprocAttr]; exact rfl) ?_;refine ab (dR fun K hK => ?_);(repeat refine eV ?_);refine aa (hK _ (wK [6] ?_));clear hK K;exact ak (an Tryz.results114 (.one (.plain _ _ rfl)) (by decide) (by rw [hk2, hal]))
def cvJ (B : List Int) (c : Nat → Bool) (j : Nat) (w : Nat) : Bool := c w || (B.take j).contains (w : Int)
theorem zr (B : List Int) (c : Nat → Bool) : cvJ B c 0 = c := by funext w; simp [cvJ]
theorem Gb {B : List Int} {c : Nat → Bool} {j u : Nat} (hj : j < B.length) (hu : gi B j = u) : N0 (cvJ B c j) u true = cvJ B c (j + 1) := by
 funext w;unfold N0 cvJ;rw [xd hj, hu, List.contains_append]
 by_cases h : w = u
 ·subst h; simp
 ·have h2 : ¬ ((w : Int) = (u : Int)) := by omega
  simp [h, h2]
theorem Kv {N : Net} (k : Nat) : cvJ (aw N (bsD (aw N) (cvD (aw N) N.ends.length k) N.ends.length)) (cvD (aw N) N.ends.length k) (aw N (bsD (aw N) (cvD (aw N) N.ends.length k) N.ends.length)).length = cvD (aw N) N.ends.length (k + 1) := by
 funext w;unfold cvJ;rw [List.take_length, cvD]
theorem I6 {ball : Nat → List Int} {c : Nat → Bool} {n k : Nat} (h0 : 0 < n) (hk : k ≤ n) : bsD ball c k < n := by
 rcases Nat.eq_zero_or_pos k with h | h
 ·subst h; exact h0
 ·have := I5 (ball := ball) (c := c) h; omega
theorem GFin.none {N : Net} {s v : Nat} (h : GFin N s) : gnD (aw N) (cvD (aw N) N.ends.length s) v = 0 := by
 rcases Nat.eq_zero_or_pos (gnD (aw N) (cvD (aw N) N.ends.length s) v) with h1 | h1
 ·exact h1
 ·obtain ⟨x, hx, hc⟩ := tp.1 h1;have h0 := f0 _ x hx;rw [h.all x.toNat (by omega)] at hc; cases hc
theorem Kz {ball : Nat → List Int} {c : Nat → Bool} {k : Nat} (h : gnD ball c (bsD ball c k) < gnD ball c k) : bsD ball c (k + 1) = k := by rw [bsD, if_pos h]
theorem Qm {ball : Nat → List Int} {c : Nat → Bool} {k : Nat} (h : ¬ gnD ball c (bsD ball c k) < gnD ball c k) : bsD ball c (k + 1) = bsD ball c k := by rw [bsD, if_neg h]
def gdSt9 : Nat → Stat
 | 0 => ⟨[1], [(1, 1)], [1], [22], [], []⟩
 | 1 => ⟨[4], [(4, 1)], [4], [23], [], []⟩
 | 2 => ⟨[7], [], [], [24], [], []⟩
 | 3 => ⟨[22, 23, 24], [(4, 1)], [4], [25], [], []⟩
 | 4 => ⟨[1], [(1, 1)], [1], [26], [], []⟩
 | 5 => ⟨[4], [(4, 1)], [4], [27], [], []⟩
 | 6 => ⟨[6], [], [], [28], [], []⟩
 | 7 => ⟨[26, 27, 28], [(4, 1)], [4], [29], [], []⟩
 | 8 => ⟨[25, 29], [], [], [30], [], []⟩
 | _ => ⟨[], [], [], [], [], []⟩
theorem py (f : NF) (N : Net) (s : Nat) (hg : bj N = true) (hf : GFin N s) : DCalls Tryz.prog 31 [.agg (bi f N)] (fun rr => rr = [.own false [.sl true 3 1 ((grD N s).map iC)], .c (.p (.bool true))]) := by
 obtain ⟨hs, hn, hids, hdg⟩ := cp hg;have hn1 : 0 < N.ends.length := by omega
 have hsn := hf.le hn1;have hz : eb [.bool false] N.ends.length = bL (cvD (aw N) N.ends.length 0) N.ends.length := by rw [Nb]; rfl
 have hs0 : sorted (stD (aw N) N.ends.length 0) = [] := by simp [stD, sorted]
 refine am Tryz.func31 rfl (by rw [Tryz.ntmps31]; simp) fun w0 => ?_;rw [Tryz.ntmps31];have dX := zp;simp only [b4, bd, Arg.av, bi, b7, ints, ends];refine ab (dR fun K hK => ?_);(repeat refine eV ?_);refine aa (hK _ (wK [1] ?_));clear hK K;refine ab ?_;refine ab (dR fun K hK => ?_);(repeat refine eV ?_);refine cL rfl ⟨rfl, _, rfl⟩ (by omega) (by first | exact Bu) (ns ⟨false, f.t1, f.o2, f.t2, false, f.t3, false, f.t4⟩ N) ?_;rintro _ rfl;(repeat refine eV ?_);have dK := @hg;refine aa (hK _ (ax [1, 12] ?_));clear hK K;refine dI ?_ ?_<;>intro hb
 ·cases hb
 ·refine af ?_;show DW _ _ _ _ _;have dX := And.intro dX (And.intro @hz @Int.toNat_natCast);refine ab (dR fun K hK => ?_);(repeat refine eV ?_);have dK := And.intro @hz @Int.toNat_natCast;refine aa (hK _ (ax [1, 4] ?_));clear hK K;refine ab (dR fun K hK => ?_);(repeat refine eV ?_);refine aa (hK _ (wK [1, 4, 5] ?_));clear hK K;refine ae ?_;refine ei 5 3 1 (by decide) (by simp only [ac, pZ, simprocAttr]) [1, 4, 5] (by simp only [ac, pZ, simprocAttr]; exact rfl) ?_;refine au (X := Nat) (fun k => k ≤ s) (fun k => []) (fun k => [((5, 0), ⟨none, [.sl true 3 1 ((sorted (stD (aw N) N.ends.length k)).map iC)]⟩), ((4, 0), ⟨none, [.sl true 4 1 (bL (cvD (aw N) N.ends.length k) N.ends.length)]⟩)]) (fun k => s - k) 0 (Nat.zero_le _) (by first | rfl | (simp only [ac, pZ, simprocAttr, Int.natCast_zero, hs0] <;> rfl)) ?_;rintro k hk;intro E hE;simp only [ac, pZ, simprocAttr] at hE;subst hE;have hall := Kv (N := N) k;have hstl := xf (N := N) k;have hss : stD (aw N) N.ends.length (k + 1) = stD (aw N) N.ends.length k ++ [((bsD (aw N) (cvD (aw N) N.ends.length k) N.ends.length : Nat) : Int)] := by rw [stD]
  have hgs := hf.none (v := bsD (aw N) (cvD (aw N) N.ends.length k) N.ends.length);have hon := hf.on k;obtain ⟨T, hT⟩ : ∃ T, T = stD (aw N) N.ends.length k := ⟨_, rfl⟩
  have hks : k = s → gnD (aw N) (cvD (aw N) N.ends.length k) (bsD (aw N) (cvD (aw N) N.ends.length k) N.ends.length) = 0 := fun h => by
   have := hf.none (v := bsD (aw N) (cvD (aw N) N.ends.length k) N.ends.length);rw [← h] at this; exact this
  obtain ⟨c, hc⟩ : ∃ c, c = cvD (aw N) N.ends.length k := ⟨_, rfl⟩;clear hgs;rw [← hc] at hall hss hon hks ⊢;rw [← hT] at hss hstl ⊢;refine ae ?_;refine ab (dR fun K hK => ?_);(repeat refine eV ?_);refine aa (hK _ (wK [1, 4, 5, 6] ?_));clear hK K;refine ab ?_;refine ab (dR fun K hK => ?_);(repeat refine eV ?_);refine aa (hK _ (wK [1, 4, 5, 6, 18, 19] ?_));clear hK K;refine ae ?_;refine au (X := Nat) (fun q => q ≤ N.ends.length) (fun q => [(6, .c (.p (.int .i64 (bsD (aw N) c q : Nat)))), (19, .c (.p (.int .i64 q)))]) (fun q => []) (fun q => N.ends.length - q) 0 (Nat.zero_le _) (by first | rfl | (simp only [ac, pZ, simprocAttr, Int.natCast_zero] <;> rfl)) ?_;rintro q hq;intro E hE;simp only [ac, pZ, simprocAttr] at hE;subst hE;refine ab (dR fun K hK => ?_);(repeat refine eV ?_);refine aa (hK _ (wK [1, 4, 5, 6, 18, 19, 20] ?_));clear hK K;refine ab (dI (fun hb => ?_) (fun hb => ?_))
  ·have hq1 : q < N.ends.length := by simpa using hb
   have hy := Kz (ball := aw N) (c := c) (k := q);have hno := Qm (ball := aw N) (c := c) (k := q);have hbi := I6 (ball := aw N) (c := c) hn1 hq;obtain ⟨b, hbe⟩ : ∃ b, b = bsD (aw N) c q := ⟨_, rfl⟩;rw [← hbe] at hy hno hbi ⊢;refine af ?_;show DW _ _ _ _ _;refine ab (ae ?_);refine ab (dR fun K hK => ?_);(repeat refine eV ?_);refine aa (hK _ (wK [1, 4, 5, 6, 7, 18, 19] ?_));clear hK K;have dX := And.intro dX (@gdSt9.eq_def);refine ab (fk gdSt9 (fun j r => match j with | 3 => r = [.c (.p (.int .i64 (gnD (aw N) c q : Nat)))] | 7 => r = [.c (.p (.int .i64 (gnD (aw N) c b : Nat)))] | _ => True) fun K hK => ?_);(repeat refine dV ?_);have dX := And.intro dX (@gdSt9.eq_def);refine dcF rfl ⟨rfl, _, rfl⟩ (by omega) (by first | exact Ie) (ye ⟨false, f.t1, f.o2, f.t2, false, f.t3, false, f.t4⟩ N true 4 c q hg hq1) ?_;rintro _ rfl;(repeat refine dV ?_);have dX := And.intro dX (@gdSt9.eq_def);refine dcF rfl ⟨rfl, _, rfl⟩ (by omega) (by first | exact Ie) (ye ⟨false, f.t1, f.o2, f.t2, false, f.t3, false, f.t4⟩ N true 4 c b hg hbi) ?_;rintro _ rfl;(repeat refine dV ?_);refine br (hK _ (wK [1, 4, 5, 6, 7, 18, 19, 30] ?_));clear hK K;refine dI ?_ ?_<;>intro hb
   ·have hn2 := hy (by
     have h : ((gnD (aw N) c q : Nat) : Int) > ((gnD (aw N) c b : Nat) : Int) := by simpa using hb
     omega)
    refine dR fun K hK => ?_;(repeat refine eV ?_);refine aa (hK _ (wK [1, 4, 5, 6, 18, 19] ?_));clear hK K;refine dR fun K hK => ?_;(repeat refine eV ?_);have dK := And.intro @bt @hn2;refine aa (hK _ ?_);clear hK K;show ∃ x, _ ∧ _ ∧ Weak _ _;refine ⟨q + 1, ?_, ?_, aq [1, 4, 5, 6, 18, 19]⟩
    ·omega
    ·omega
   ·have hn2 := hno (by
     have h : ¬ ((gnD (aw N) c q : Nat) : Int) > ((gnD (aw N) c b : Nat) : Int) := by simpa using hb
     omega)
    refine af ?_;show DW _ _ _ _ _;refine dR fun K hK => ?_;(repeat refine eV ?_);have dK := And.intro @bt @hn2;refine aa (hK _ ?_);clear hK K;show ∃ x, _ ∧ _ ∧ Weak _ _;refine ⟨q + 1, ?_, ?_, aq [1, 4, 5, 6, 18, 19]⟩
    ·omega
    ·omega
  ·have hq2 : q = N.ends.length := by
    have : ¬ q < N.ends.length := by simpa using hb
    omega
   rw [hq2];have hbi := I6 (ball := aw N) (c := c) hn1 (Nat.le_refl N.ends.length);have hbl := oo N (bsD (aw N) c N.ends.length);have hbm := f0 (N := N) (bsD (aw N) c N.ends.length);obtain ⟨b, hbe⟩ : ∃ b, b = bsD (aw N) c N.ends.length := ⟨_, rfl⟩;rw [← hbe] at hall hss hon hks hbi hbl hbm ⊢;refine ao ?_;refine bb [1, 4, 5, 6] (by simp only [ac, pZ, simprocAttr]; exact rfl) ?_;refine ab ?_;refine ab (dR fun K hK => ?_);(repeat refine eV ?_);refine cL rfl ⟨rfl, _, rfl⟩ (by omega) (by first | exact Ie) (ye ⟨false, f.t1, f.o2, f.t2, false, f.t3, false, f.t4⟩ N true 4 c b hg hbi) ?_;rintro _ rfl;(repeat refine eV ?_);refine aa (hK _ (wK [1, 4, 5, 6, 37] ?_));clear hK K
   by_cases hg0 : gnD (aw N) c b = 0
   ·have hke : k = s := by
     by_cases h : k < s
     ·have := hon h; omega
     ·omega
    rw [hg0];refine dI ?_ ?_<;>intro hb
    ·refine ab (dR fun K hK => ?_);(repeat refine eV ?_);refine aa (hK _ (wK [2, 3] ?_));clear hK K;exact ak (an Tryz.results31 (.two (.own _ _ _ _ rfl rfl (own1 (az _ _))) (.plain _ _ rfl)) (by decide) (by rw [hT, hke]; rfl))
    ·cases hb
   ·have hke : k < s := by
     by_cases h : k = s
     ·exact absurd (hks h) hg0
     ·omega
    have hnd := hf.nodup (k + 1) hke;have d1 : (((gnD (aw N) c b : Nat) : Int) == 0) = false := by simp; omega
    have hpq : na (sorted T) b = sorted (stD (aw N) N.ends.length (k + 1)) := by rw [hss]; exact (vt (by rw [hss] at hnd; exact hnd)).symm
    have hsl : (sorted T).length ≤ 1000000 := by rw [dm, hstl]; omega
    rw [d1];refine dI ?_ ?_<;>intro hb
    ·cases hb
    ·refine af ?_;show DW _ _ _ _ _;refine ab (dR fun K hK => ?_);(repeat refine eV ?_);refine gmF (hag := fun _ => rfl) rfl ⟨rfl, _, rfl⟩ (by omega) (by first | exact Tx) (Kh 3 (sorted T) b hsl rfl) ?_;rintro _ rfl;refine Il ?_;(repeat refine eV ?_);have dK := @hpq;refine aa (hK _ (ax [1, 4, 5, 6] ?_));clear hK K;refine ab (dR fun K hK => ?_);(repeat refine eV ?_);refine cL rfl ⟨rfl, _, rfl⟩ (by omega) (by first | exact Pn) (Fj ⟨false, f.t1, f.o2, f.t2, false, f.t3, false, f.t4⟩ N b hg hbi) ?_;rintro _ rfl;(repeat refine eV ?_);refine aa (hK _ (wK [1, 4, 5, 44, 45, 46] ?_));clear hK K;obtain ⟨B, hB⟩ : ∃ B, B = aw N b := ⟨_, rfl⟩;rw [← hB] at hall hbl hbm ⊢;have hc0 : c = cvJ B c 0 := (zr B c).symm;refine ae ?_;refine au (X := Nat) (fun j => j ≤ B.length) (fun j => [(46, .c (.p (.int .i64 j)))]) (fun j => [((4, 0), ⟨none, [.sl true 4 1 (bL (cvJ B c j) N.ends.length)]⟩)]) (fun j => B.length - j) 0 (Nat.zero_le _) (by first | rfl | (simp only [ac, pZ, simprocAttr, Int.natCast_zero, zr] <;> rfl)) ?_;rintro j hj;intro E hE;simp only [ac, pZ, simprocAttr] at hE;subst hE;refine ab (dR fun K hK => ?_);(repeat refine eV ?_);refine aa (hK _ (wK [1, 4, 5, 44, 45, 46, 47] ?_));clear hK K;refine ab (dI (fun hb => ?_) (fun hb => ?_))
     ·have hj1 : j < B.length := by simpa using hb
      obtain ⟨w, hw, hwl⟩ : ∃ w : Nat, gi B j = w ∧ w < N.ends.length := by
       have h := hbm (gi B j) (by rw [bm hj1]; exact List.getElem_mem hj1);exact ⟨(gi B j).toNat, by omega, by omega⟩
      have hup := Gb (c := c) hj1 hw;refine af ?_;show DW _ _ _ _ _;refine ab (ae ?_);have dX := And.intro dX (@hw);refine ab (dR fun K hK => ?_);(repeat refine eV ?_);have dK := @hw;refine aa (hK _ (ax [1, 4, 5, 9, 44, 45, 46] ?_));clear hK K;have dX := And.intro dX (@Int.toNat_natCast);refine dR fun K hK => ?_;(repeat refine eV ?_);have dK := And.intro @Int.toNat_natCast (And.intro @Xf @hup);refine aa (hK _ (ax [1, 4, 5, 44, 45, 46] ?_));clear hK K;refine dR fun K hK => ?_;(repeat refine eV ?_);have dK := @bt;refine aa (hK _ ?_);clear hK K;show ∃ x, _ ∧ _ ∧ Weak _ _;refine ⟨j + 1, ?_, ?_, aq [1, 4, 5, 44, 45, 46]⟩
      ·omega
      ·omega
     ·have hj2 : j = B.length := by
       have : ¬ j < B.length := by simpa using hb
       omega
      rw [hj2, hall];refine ao ?_;show ∃ x, _ ∧ _ ∧ Weak _ _;exact ⟨k + 1, hke, by omega, Jp [1, 4, 5]⟩
end
section
set_option maxHeartbeats 0
set_option maxRecDepth 8000
open Go Go.RowKit Go.Sort
def gd1St1 : Nat → Stat
 | 0 => ⟨[1], [], [], [5], [], []⟩
 | 1 => ⟨[0], [], [], [6], [], []⟩
 | 2 => ⟨[1], [], [], [7], [], []⟩
 | 3 => ⟨[7], [], [], [8], [], []⟩
 | 4 => ⟨[8], [], [], [9], [], []⟩
 | 5 => ⟨[9], [], [], [10], [], []⟩
 | 6 => ⟨[5, 6, 10], [(10, 1)], [10], [11], [], []⟩
 | 7 => ⟨[0], [], [], [12], [], []⟩
 | 8 => ⟨[12], [], [], [13], [], []⟩
 | 9 => ⟨[11, 13], [(11, 1), (13, 1)], [11, 13], [14], [(11, 1)], []⟩
 | 10 => ⟨[14], [(14, 1)], [14], [4], [(14, 1)], []⟩
 | _ => ⟨[], [], [], [], [], []⟩
def zBRb41 := PLift.up (And.intro ap (And.intro bc (And.intro b9 (And.intro bg (And.intro ay (And.intro @if_pos.{1} (And.intro @b6 (And.intro @bq (And.intro @ba (And.intro @a8 (And.intro kc (And.intro r9 (And.intro @sf (And.intro @kp (And.intro @ij (And.intro dw (And.intro @dx (And.intro @cq @trivial))))))))))))))))))
theorem Dr : type_of% zBRb41.down := zBRb41.down
theorem Qw (f : NF) (N : Net) (v : Nat) (hg : bj N = true) (hv : v < N.ends.length) : DCalls Tryz.prog 109 [.c (.p (.int .i64 v)), .rp (bi f N)] (fun r => r = [.own false [.sl true 3 1 ((aw N v).map iC)]]) := by
 obtain ⟨hs, hn, hids, hdg⟩ := cp hg;have hdv := hdg v;have hab := Gq hs hv;have hul := dp N.ends.length;have hal := K6 (dh N.ends.length) ((gl N.ends v).map Prod.fst);rw [List.length_map] at hal;have hnr := Uy f N v true 3 (dh N.ends.length) hg hv hul;obtain ⟨A, hA⟩ : ∃ A, A = atL (dh N.ends.length) ((gl N.ends v).map Prod.fst) := ⟨_, rfl⟩;rw [← hA] at hab hal hnr;have hxl : (A ++ [(v : Int)]).length = (gl N.ends v).length + 1 := by rw [List.length_append, hal]; rfl
 have hsl : (sorted (A ++ [(v : Int)])).length = (gl N.ends v).length + 1 := by rw [dm, hxl]
 refine am Tryz.func109 rfl (by rw [Tryz.ntmps109]; simp) fun w0 => ?_;rw [Tryz.ntmps109];have dX := Dr;simp only [b4, bd, Arg.av, bi, b7, ints, ends];refine ab (dR fun K hK => ?_);(repeat refine eV ?_);refine aa (hK _ (wK [0, 1] ?_));clear hK K;have dX := And.intro dX (@gd1St1.eq_def);refine ab (fk gd1St1 (fun j r => match j with | 5 => r = [.own false [.sl true 3 1 ((dh N.ends.length).map iC)]] | 6 => r = [.own false [.sl true 3 1 (A.map iC)]] | _ => True) fun K hK => ?_);(repeat refine dV ?_);have dX := And.intro dX (@gd1St1.eq_def);refine dcF rfl ⟨rfl, _, rfl⟩ (by omega) (by first | exact qf | exact Pp) (nl N.ends.length (by omega)) ?_;rintro _ rfl;(repeat refine dV ?_);have dX := And.intro dX (@gd1St1.eq_def);refine dcF rfl ⟨rfl, _, rfl⟩ (by omega) (by first | exact qf | exact Pp) (hnr) ?_;rintro _ rfl;(repeat refine dV ?_);have dK := @ef;refine br (hK _ (ax [4] ?_));clear hK K;refine ab (Dp (r := 4) (s := 15) (d := 16) (t := 3) (xs := A ++ [(v : Int)]) rfl rfl rfl rfl rfl rfl rfl rfl (by show 15 < 19; omega) (by show 16 < 19; omega) (by omega) (by omega) (by omega) (by omega) ?_);refine bb [4] (by simp only [ac, pZ, simprocAttr]; exact rfl) ?_;refine ab (dR fun K hK => ?_)
 repeat (apply bz; (focus exact rfl); (focus (simp (disch := first | omega | (intros; contradiction)) only [ac, bl, pZ, simprocAttr, ap, bc, b9, bg, ay, if_pos, b6, bq, ba, a8, kc, r9, sf, kp, ij, dw, dx, cq , If]; exact rfl)))
 refine gmF (hag := fun _ => rfl) rfl ⟨rfl, _, rfl⟩ (by omega) (by first | exact If) (M9 (sorted (A ++ [(v : Int)])) (by omega) (by omega)) ?_;rintro _ rfl;refine Il ?_
 repeat (apply bz; (focus exact rfl); (focus (simp (disch := first | omega | (intros; contradiction)) only [ac, bl, pZ, simprocAttr, ap, bc, b9, bg, ay, if_pos, b6, bq, ba, a8, kc, r9, sf, kp, ij, dw, dx, cq , If]; exact rfl)))
 have dK := @hab;refine aa (hK _ (ax [3] ?_));clear hK K;exact ak (an Tryz.results109 (.one (.own _ _ _ _ rfl rfl (own1 (az _ _)))) (by decide) rfl)
def km (ball : Nat → List Int) (c : Nat → Bool) (k : Nat) : Nat := if k = 0 then 0 else gnD ball c (bsD ball c k)
theorem Mb {ball : Nat → List Int} {c : Nat → Bool} {k : Nat} (h : km ball c k < gnD ball c k) : bsD ball c (k + 1) = k ∧ km ball c (k + 1) = gnD ball c k := by
 have hb : bsD ball c (k + 1) = k := by
  unfold km at h;split at h
  ·rename_i h0
   subst h0;show (if gnD ball c (bsD ball c 0) < gnD ball c 0 then 0 else bsD ball c 0) = 0;split <;> rfl
  ·exact Kz h
 refine ⟨hb, ?_⟩;unfold km;rw [if_neg (Nat.succ_ne_zero k), hb]
theorem O8 {ball : Nat → List Int} {c : Nat → Bool} {k : Nat} (h : ¬ km ball c k < gnD ball c k) : bsD ball c (k + 1) = bsD ball c k ∧ km ball c (k + 1) = km ball c k := by
 unfold km at h;split at h
 ·rename_i h0
  subst h0
  have hb : bsD ball c (0 + 1) = bsD ball c 0 := by
   show (if gnD ball c (bsD ball c 0) < gnD ball c 0 then 0 else bsD ball c 0) = bsD ball c 0;split <;> rfl
  refine ⟨hb, ?_⟩;unfold km;rw [if_neg (Nat.succ_ne_zero 0), hb, if_pos rfl];have : gnD ball c (bsD ball c 0) = gnD ball c 0 := rfl;omega
 ·rename_i h0
  have hb := Qm h;refine ⟨hb, ?_⟩;unfold km;rw [if_neg (Nat.succ_ne_zero k), hb, if_neg h0]
theorem O9 {N : Net} {c : Nat → Bool} {k : Nat} : km (aw N) c k ≤ N.ends.length := by
 unfold km;split
 ·exact Nat.zero_le _
 ·rw [← Dj];exact Nat.le_trans (Is _ _ _) (oo _ _)
theorem pz (f : NF) (N : Net) (s : Nat) (hg : bj N = true) (hf : GFin N s) : DCalls Tryz.prog 30 [.agg (bi f N)] (fun rr => rr = [.own false [.sl true 3 1 ((grD N s).map iC)], .c (.p (.bool true))]) := by
 obtain ⟨hs, hn, hids, hdg⟩ := cp hg;have hn1 : 0 < N.ends.length := by omega
 have hsn := hf.le hn1;have hz : eb [.bool false] N.ends.length = bL (cvD (aw N) N.ends.length 0) N.ends.length := by rw [Nb]; rfl
 have hclo : ∀ v, v < N.ends.length → DCalls Tryz.prog 109 ([.c (.p (.int .i64 (v : Int)))] ++ [bi ⟨false, f.t1, f.o2, f.t2, false, f.t3, false, f.t4⟩ N].map .rp) (fun r => r = [.own false [.sl true 3 1 ((aw N v).map iC)]]) := fun v hv => Qw ⟨false, f.t1, f.o2, f.t2, false, f.t3, false, f.t4⟩ N v hg hv;simp only [bi, b7, ints, ends] at hclo;have ho0 : (if (false = true) then (1 : Int) else 0) = 0 := rfl;have ho1 : (if (true = true) then (1 : Int) else 0) = 1 := rfl
 have hs1 : 0 < s := by
  rcases Nat.eq_zero_or_pos s with h | h
  ·subst h;have := hf.all 0 hn1;cases this
  ·exact h
 refine am Tryz.func30 rfl (by rw [Tryz.ntmps30]; simp) fun w0 => ?_;rw [Tryz.ntmps30];have dX := Dr;simp only [b4, bd, Arg.av, bi, b7, ints, ends];refine ab (dR fun K hK => ?_);(repeat refine eV ?_);refine aa (hK _ (wK [1] ?_));clear hK K;refine ab ?_;refine ab (dR fun K hK => ?_);(repeat refine eV ?_);refine cL rfl ⟨rfl, _, rfl⟩ (by omega) (by first | exact mt) (ez ⟨false, f.t1, f.o2, f.t2, false, f.t3, false, f.t4⟩ N (by omega)) ?_;rintro _ rfl;(repeat refine eV ?_);have dK := @hg;refine aa (hK _ (ax [1, 17] ?_));clear hK K;refine dI ?_ ?_<;>intro hb
 ·cases hb
 ·refine af ?_;show DW _ _ _ _ _;refine ab (dR fun K hK => ?_);(repeat refine eV ?_);refine aa (hK _ (wK [1, 4] ?_));clear hK K;have dX := And.intro dX (And.intro @hz @Int.toNat_natCast);refine ab (dR fun K hK => ?_);(repeat refine eV ?_);have dK := And.intro @hz @Int.toNat_natCast;refine aa (hK _ (ax [1, 4, 5] ?_));clear hK K;refine ab (dR fun K hK => ?_);(repeat refine eV ?_);refine aa (hK _ (wK [1, 4, 5, 6] ?_));clear hK K;refine Vh 1 6 [1, 4, 5, 6] rfl rfl rfl rfl ⟨rfl, fun d hd => by cases hd⟩ (by simp only [ac, pZ, simprocAttr, Xc, Tq, Cy, Rv, Ll]; exact rfl) ?_;refine ab (ae ?_);refine ei 4 3 1 (by decide) (by simp only [ac, pZ, simprocAttr]) [1, 4, 5, 6] (by simp only [ac, pZ, simprocAttr]; exact rfl) ?_;refine au (X := Nat) (fun k => k ≤ s) (fun k => []) (fun k => [((4, 0), ⟨none, [.sl true 3 1 ((stD (aw N) N.ends.length k).map iC)]⟩), ((5, 0), ⟨none, [.sl true 4 1 (bL (cvD (aw N) N.ends.length k) N.ends.length)]⟩)]) (fun k => s - k) 0 (Nat.zero_le _) (by first | rfl | (simp only [ac, pZ, simprocAttr, Int.natCast_zero] <;> rfl)) ?_;rintro k hk;intro E hE;simp only [ac, pZ, simprocAttr] at hE;subst hE;refine ab ?_;refine ab (dR fun K hK => ?_)
  repeat (apply bz; (focus exact rfl); (focus (simp (disch := first | omega | (intros; contradiction)) only [ac, bl, pZ, simprocAttr, ap, bc, b9, bg, ay, if_pos, b6, bq, ba, a8, kc, r9, sf, kp, ij, dw, dx, cq , De]; exact rfl)))
  refine du rfl ⟨rfl, _, rfl⟩ (by omega) (by first | exact De) (by simp (disch := first | omega | (intros; contradiction)) only [ac, bl, pZ, simprocAttr, ap, bc, b9, bg, ay, if_pos, b6, bq, ba, a8, kc, r9, sf, kp, ij, dw, dx, cq , De] <;> exact rfl) (Gz true 4 (cvD (aw N) N.ends.length k) N.ends.length (by omega)) ?_;rintro _ rfl
  repeat (apply bz; (focus exact rfl); (focus (simp (disch := first | omega | (intros; contradiction)) only [ac, bl, pZ, simprocAttr, ap, bc, b9, bg, ay, if_pos, b6, bq, ba, a8, kc, r9, sf, kp, ij, dw, dx, cq , De]; exact rfl)))
  refine aa (hK _ (wK [1, 4, 5, 6, 24] ?_));clear hK K;have hstl := xf (N := N) k
  by_cases hke : k = s
  ·have hno := Sd (hke ▸ hf.all : ∀ w, w < N.ends.length → cvD (aw N) N.ends.length k w = true);rw [hno];refine dI ?_ ?_<;>intro hb
   ·cases hb
   ·refine ao ?_;refine bb [4] (by simp only [ac, pZ, simprocAttr]; exact rfl) ?_;refine ab (Dp (r := 4) (s := 70) (d := 71) (t := 3) (xs := stD (aw N) N.ends.length k) rfl rfl rfl rfl rfl rfl rfl rfl (by show 70 < 73; omega) (by show 71 < 73; omega) (by omega) (by omega) (by omega) (by omega) ?_);refine bb [4] (by simp only [ac, pZ, simprocAttr]; exact rfl) ?_;refine ab (dR fun K hK => ?_);(repeat refine eV ?_);refine aa (hK _ (wK [2, 3] ?_));clear hK K;exact ak (an Tryz.results30 (.two (.own _ _ _ _ rfl rfl (own1 (az _ _))) (.plain _ _ rfl)) (by decide) (by rw [hke]; rfl))
  ·have hk1 : k < s := by omega
   have hyes : decide (0 ≤ oa N.ends.length fun j => !cvD (aw N) N.ends.length k j) = true := by
    obtain ⟨x, hx, hcx⟩ := tp.1 (hf.on k hk1);have h0 := f0 _ x hx;exact P4 (w := x.toNat) (by omega) hcx
   have hall := Kv (N := N) k;have hss : stD (aw N) N.ends.length (k + 1) = stD (aw N) N.ends.length k ++ [((bsD (aw N) (cvD (aw N) N.ends.length k) N.ends.length : Nat) : Int)] := by rw [stD]
   rw [hyes];obtain ⟨T, hT⟩ : ∃ T, T = stD (aw N) N.ends.length k := ⟨_, rfl⟩;obtain ⟨c, hc⟩ : ∃ c, c = cvD (aw N) N.ends.length k := ⟨_, rfl⟩;rw [← hc] at hall hss ⊢;rw [← hT] at hss hstl ⊢;refine dI ?_ ?_<;>intro hb
   ·refine af ?_;show DW _ _ _ _ _;refine ae ?_;refine ab (dR fun K hK => ?_);(repeat refine eV ?_);refine aa (hK _ (wK [1, 4, 5, 6, 7, 8] ?_));clear hK K;refine ab ?_;refine ab (dR fun K hK => ?_);(repeat refine eV ?_);refine aa (hK _ (wK [1, 4, 5, 6, 7, 8, 27, 28] ?_));clear hK K;refine ae ?_;refine au (X := Nat) (fun q => q ≤ N.ends.length) (fun q => [(7, .c (.p (.int .i64 (bsD (aw N) c q : Nat)))), (8, .c (.p (.int .i64 (km (aw N) c q : Nat)))), (28, .c (.p (.int .i64 q)))]) (fun q => []) (fun q => N.ends.length - q) 0 (Nat.zero_le _) (by first | rfl | (simp only [ac, pZ, simprocAttr, Int.natCast_zero] <;> rfl)) ?_;rintro q hq;intro E hE;simp only [ac, pZ, simprocAttr] at hE;subst hE;refine ab (dR fun K hK => ?_);(repeat refine eV ?_);refine aa (hK _ (wK [1, 4, 5, 6, 7, 8, 27, 28, 29] ?_));clear hK K;refine ab (dI (fun hb => ?_) (fun hb => ?_))
    ·have hq1 : q < N.ends.length := by simpa using hb
     have hy := Mb (ball := aw N) (c := c) (k := q);have hno := O8 (ball := aw N) (c := c) (k := q);have hml := O9 (N := N) (c := c) (k := q);have hbl := oo N q;have hbm := f0 (N := N) q;have hal := Dj (ball := aw N) (c := c) (v := q);obtain ⟨b, hbe⟩ : ∃ b, b = bsD (aw N) c q := ⟨_, rfl⟩;obtain ⟨m, hme⟩ : ∃ m, m = km (aw N) c q := ⟨_, rfl⟩;rw [← hbe, ← hme] at hno;rw [← hme] at hy hml;rw [← hbe, ← hme];refine af ?_;show DW _ _ _ _ _;refine ab (ae ?_);refine ab (dR fun K hK => ?_);(repeat refine eV ?_);refine aa (hK _ (wK [1, 4, 5, 6, 7, 8, 9, 27, 28] ?_));clear hK K;refine ab (dR fun K hK => ?_);(repeat refine eV ?_);refine aa (hK _ (wK [1, 4, 5, 6, 7, 8, 9, 10, 27, 28] ?_));clear hK K;refine ab ?_;refine ab (dR fun K hK => ?_);(repeat refine eV ?_);refine kv rfl ⟨rfl, _, rfl⟩ (by omega) (by simp (disch := first | omega | (intros; contradiction)) only [ac, bl, pZ, simprocAttr, ap, bc, b9, bg, ay, if_pos, b6, bq, ba, a8, kc, r9, sf, kp, ij, dw, dx, cq , un] <;> exact rfl) (by first | assumption | exact un) (by simp (disch := first | omega | (intros; contradiction)) only [ac, bl, pZ, simprocAttr, ap, bc, b9, bg, ay, if_pos, b6, bq, ba, a8, kc, r9, sf, kp, ij, dw, dx, cq , un] <;> exact rfl) (hclo q hq1) ?_;rintro _ rfl;(repeat refine eV ?_);refine aa (hK _ (wK [1, 4, 5, 6, 7, 8, 9, 10, 27, 28, 33, 34, 35] ?_));clear hK K;refine mh 33 [1, 4, 5, 6, 7, 8, 9, 10, 27, 28, 33, 34, 35] rfl rfl (by simp only [ac, pZ, simprocAttr, sj, qc, jf, je, fw]; exact rfl) ?_;obtain ⟨B, hB⟩ : ∃ B, B = aw N q := ⟨_, rfl⟩;rw [← hB] at hbl hbm hal ⊢;refine ae ?_;refine au (X := Nat) (fun j => j ≤ B.length) (fun j => [(10, .c (.p (.int .i64 (gnT B c j : Nat)))), (35, .c (.p (.int .i64 j)))]) (fun j => []) (fun j => B.length - j) 0 (Nat.zero_le _) (by first | rfl | (simp only [ac, pZ, simprocAttr, Int.natCast_zero] <;> rfl)) ?_;rintro j hj;intro E hE;simp only [ac, pZ, simprocAttr] at hE;subst hE;refine ab (dR fun K hK => ?_);(repeat refine eV ?_);refine aa (hK _ (wK [1, 4, 5, 6, 7, 8, 9, 10, 27, 28, 33, 34, 35, 36] ?_));clear hK K;refine ab (dI (fun hb => ?_) (fun hb => ?_))
     ·have hj1 : j < B.length := by simpa using hb
      obtain ⟨w, hw, hwl⟩ : ∃ w : Nat, gi B j = w ∧ w < N.ends.length := by
       have h := hbm (gi B j) (by rw [bm hj1]; exact List.getElem_mem hj1);exact ⟨(gi B j).toNat, by omega, by omega⟩
      have hle := Is B c j;have hgy := Kn (c := c) hj1;have hgn := P6 (c := c) hj1;rw [hw, Int.toNat_natCast] at hgy hgn;refine af ?_;show DW _ _ _ _ _;refine ab (ae ?_);have dX := And.intro dX (@hw);refine ab (dR fun K hK => ?_);(repeat refine eV ?_);have dK := @hw;refine aa (hK _ (ax [1, 4, 5, 6, 7, 8, 9, 10, 12, 27, 28, 33, 34, 35] ?_));clear hK K;obtain h1 | h1 := Bool.eq_false_or_eq_true (c w)
      ·have hn1 := hgn h1;have dX := And.intro dX (And.intro @Int.toNat_natCast @h1);refine dR fun K hK => ?_;(repeat refine eV ?_);have dX := And.intro dX (And.intro @Int.toNat_natCast @h1);refine cL rfl ⟨rfl, _, rfl⟩ (by omega) (by first | exact Po) (Kb false) ?_;rintro _ rfl;(repeat refine eV ?_);have dK := And.intro @h1 (And.intro @ho0 @Int.add_zero);refine aa (hK _ (ax [1, 4, 5, 6, 7, 8, 9, 10, 27, 28, 33, 34, 35] ?_));clear hK K;refine dR fun K hK => ?_;(repeat refine eV ?_);have dK := And.intro @bt @hn1;refine aa (hK _ ?_);clear hK K;show ∃ x, _ ∧ _ ∧ Weak _ _;refine ⟨j + 1, ?_, ?_, aq [1, 4, 5, 6, 7, 8, 9, 10, 27, 28, 33, 34, 35]⟩
       ·omega
       ·omega
      ·have hn1 := hgy h1;have dX := And.intro dX (And.intro @Int.toNat_natCast @h1);refine dR fun K hK => ?_;(repeat refine eV ?_);have dX := And.intro dX (And.intro @Int.toNat_natCast @h1);refine cL rfl ⟨rfl, _, rfl⟩ (by omega) (by first | exact Po) (Kb true) ?_;rintro _ rfl;(repeat refine eV ?_);have dK := And.intro @h1 (And.intro @ho1 @bt);refine aa (hK _ (ax [1, 4, 5, 6, 7, 8, 9, 10, 27, 28, 33, 34, 35] ?_));clear hK K;refine dR fun K hK => ?_;(repeat refine eV ?_);have dK := And.intro @bt @hn1;refine aa (hK _ ?_);clear hK K;show ∃ x, _ ∧ _ ∧ Weak _ _;refine ⟨j + 1, ?_, ?_, aq [1, 4, 5, 6, 7, 8, 9, 10, 27, 28, 33, 34, 35]⟩
       ·omega
       ·omega
     ·have hj2 : j = B.length := by
       have : ¬ j < B.length := by simpa using hb
       omega
      rw [hj2, hal];refine ao ?_;refine bb [1, 4, 5, 6, 7, 8, 9, 10, 27, 28] (by simp only [ac, pZ, simprocAttr]; exact rfl) ?_;refine ab (dR fun K hK => ?_);(repeat refine eV ?_);refine aa (hK _ (wK [1, 4, 5, 6, 7, 8, 9, 10, 27, 28, 50] ?_));clear hK K;refine dI ?_ ?_<;>intro hb
      ·have hn2 := hy (by
        have h : ((gnD (aw N) c q : Nat) : Int) > (m : Int) := by simpa using hb
        omega)
       refine dR fun K hK => ?_;(repeat refine eV ?_);refine aa (hK _ (wK [1, 4, 5, 6, 7, 8, 27, 28] ?_));clear hK K;refine dR fun K hK => ?_;(repeat refine eV ?_);have dK := And.intro @bt (And.intro @hn2.1 @hn2.2);refine aa (hK _ ?_);clear hK K;show ∃ x, _ ∧ _ ∧ Weak _ _;refine ⟨q + 1, ?_, ?_, aq [1, 4, 5, 6, 7, 8, 27, 28]⟩
       ·omega
       ·omega
      ·have hn2 := hno (by
        have h : ¬ ((gnD (aw N) c q : Nat) : Int) > (m : Int) := by simpa using hb
        omega)
       refine af ?_;show DW _ _ _ _ _;refine dR fun K hK => ?_;(repeat refine eV ?_);have dK := And.intro @bt (And.intro @hn2.1 @hn2.2);refine aa (hK _ ?_);clear hK K;show ∃ x, _ ∧ _ ∧ Weak _ _;refine ⟨q + 1, ?_, ?_, aq [1, 4, 5, 6, 7, 8, 27, 28]⟩
       ·omega
       ·omega
    ·have hq2 : q = N.ends.length := by
      have : ¬ q < N.ends.length := by simpa using hb
      omega
     rw [hq2];have hbi := I6 (ball := aw N) (c := c) hn1 (Nat.le_refl N.ends.length);have hbl := oo N (bsD (aw N) c N.ends.length);have hbm := f0 (N := N) (bsD (aw N) c N.ends.length);obtain ⟨b, hbe⟩ : ∃ b, b = bsD (aw N) c N.ends.length := ⟨_, rfl⟩;rw [← hbe] at hall hss hbi hbl hbm ⊢;refine ao ?_;refine bb [1, 4, 5, 6, 7] (by simp only [ac, pZ, simprocAttr]; exact rfl) ?_;refine ab (dR fun K hK => ?_);(repeat refine eV ?_);have dK := And.intro @ef (Eq.symm hss);refine aa (hK _ (ax [1, 4, 5, 6, 7] ?_));clear hK K;refine ab (dR fun K hK => ?_);(repeat refine eV ?_);refine kv rfl ⟨rfl, _, rfl⟩ (by omega) (by simp (disch := first | omega | (intros; contradiction)) only [ac, bl, pZ, simprocAttr, ap, bc, b9, bg, ay, if_pos, b6, bq, ba, a8, kc, r9, sf, kp, ij, dw, dx, cq , un] <;> exact rfl) (by first | assumption | exact un) (by simp (disch := first | omega | (intros; contradiction)) only [ac, bl, pZ, simprocAttr, ap, bc, b9, bg, ay, if_pos, b6, bq, ba, a8, kc, r9, sf, kp, ij, dw, dx, cq , un] <;> exact rfl) (hclo b hbi) ?_;rintro _ rfl;(repeat refine eV ?_);refine aa (hK _ (wK [1, 4, 5, 6, 60, 61, 62] ?_));clear hK K;refine mh 60 [1, 4, 5, 6, 60, 61, 62] rfl rfl (by simp only [ac, pZ, simprocAttr, sj, qc, jf, je, fw]; exact rfl) ?_;obtain ⟨B, hB⟩ : ∃ B, B = aw N b := ⟨_, rfl⟩;rw [← hB] at hall hbl hbm ⊢;refine ae ?_;refine au (X := Nat) (fun j => j ≤ B.length) (fun j => [(62, .c (.p (.int .i64 j)))]) (fun j => [((5, 0), ⟨none, [.sl true 4 1 (bL (cvJ B c j) N.ends.length)]⟩)]) (fun j => B.length - j) 0 (Nat.zero_le _) (by first | rfl | (simp only [ac, pZ, simprocAttr, Int.natCast_zero, zr] <;> rfl)) ?_;rintro j hj;intro E hE;simp only [ac, pZ, simprocAttr] at hE;subst hE;refine ab (dR fun K hK => ?_);(repeat refine eV ?_);refine aa (hK _ (wK [1, 4, 5, 6, 60, 61, 62, 63] ?_));clear hK K;refine ab (dI (fun hb => ?_) (fun hb => ?_))
     ·have hj1 : j < B.length := by simpa using hb
      obtain ⟨w, hw, hwl⟩ : ∃ w : Nat, gi B j = w ∧ w < N.ends.length := by
       have h := hbm (gi B j) (by rw [bm hj1]; exact List.getElem_mem hj1);exact ⟨(gi B j).toNat, by omega, by omega⟩
      have hup := Gb (c := c) hj1 hw;refine af ?_;show DW _ _ _ _ _;refine ab (ae ?_);have dX := And.intro dX (@hw);refine ab (dR fun K hK => ?_);(repeat refine eV ?_);have dK := @hw;refine aa (hK _ (ax [1, 4, 5, 6, 14, 60, 61, 62] ?_));clear hK K;have dX := And.intro dX (@Int.toNat_natCast);refine dR fun K hK => ?_;(repeat refine eV ?_);have dK := And.intro @Int.toNat_natCast (And.intro @Xf @hup);refine aa (hK _ (ax [1, 4, 5, 6, 60, 61, 62] ?_));clear hK K;refine dR fun K hK => ?_;(repeat refine eV ?_);have dK := @bt;refine aa (hK _ ?_);clear hK K;show ∃ x, _ ∧ _ ∧ Weak _ _;refine ⟨j + 1, ?_, ?_, aq [1, 4, 5, 6, 60, 61, 62]⟩
      ·omega
      ·omega
     ·have hj2 : j = B.length := by
       have : ¬ j < B.length := by simpa using hb
       omega
      rw [hj2, hall];refine ao ?_;show ∃ x, _ ∧ _ ∧ Weak _ _;exact ⟨k + 1, hk1, by omega, Jp [1, 4, 5, 6]⟩
   ·cases hb
theorem ow (f : NF) (N : Net) (hi : N.ids.length ≤ 2097152) (h : bj N = false) : DCalls Tryz.prog 30 [.agg (bi f N)] (fun r => r = [.own false [.sl true 3 1 (([] : List Int).map iC)], .c (.p (.bool false))]) := by
 refine am Tryz.func30 rfl (by rw [Tryz.ntmps30]; simp) fun w0 => ?_;rw [Tryz.ntmps30];have dX := Dr;simp only [b4, bd, Arg.av, bi, b7, ints, ends];refine ab (dR fun K hK => ?_);(repeat refine eV ?_);refine aa (hK _ (wK [1] ?_));clear hK K;refine ab ?_;refine ab (dR fun K hK => ?_);(repeat refine eV ?_);refine cL rfl ⟨rfl, _, rfl⟩ (by omega) (by first | exact mt) (ez ⟨false, f.t1, f.o2, f.t2, false, f.t3, false, f.t4⟩ N hi) ?_;rintro _ rfl;(repeat refine eV ?_);have dK := @h;refine aa (hK _ (ax [1, 17] ?_));clear hK K;refine dI ?_ ?_<;>intro hb
 ·refine ab (dR fun K hK => ?_);(repeat refine eV ?_);refine aa (hK _ (wK [2, 3] ?_));clear hK K;refine ei 2 3 1 (by decide) (by simp only [ac, pZ, simprocAttr]) [2, 3] (by simp only [ac, pZ, simprocAttr]; exact rfl) ?_;exact ak (an Tryz.results30 (.two (.own _ _ _ _ rfl rfl (own1 (az _ []))) (.plain _ _ rfl)) (by decide) rfl)
 ·cases hb
theorem ov (f : NF) (N : Net) (hi : N.ids.length ≤ 2097152) (h : bj N = false) : DCalls Tryz.prog 31 [.agg (bi f N)] (fun r => r = [.own false [.sl true 3 1 (([] : List Int).map iC)], .c (.p (.bool false))]) := by
 refine am Tryz.func31 rfl (by rw [Tryz.ntmps31]; simp) fun w0 => ?_;rw [Tryz.ntmps31];have dX := Dr;simp only [b4, bd, Arg.av, bi, b7, ints, ends];refine ab (dR fun K hK => ?_);(repeat refine eV ?_);refine aa (hK _ (wK [1] ?_));clear hK K;refine ab ?_;refine ab (dR fun K hK => ?_);(repeat refine eV ?_);refine cL rfl ⟨rfl, _, rfl⟩ (by omega) (by first | exact Bu) (ns ⟨false, f.t1, f.o2, f.t2, false, f.t3, false, f.t4⟩ N) ?_;rintro _ rfl;(repeat refine eV ?_);have dK := @h;refine aa (hK _ (ax [1, 12] ?_));clear hK K;refine dI ?_ ?_<;>intro hb
 ·refine ab (dR fun K hK => ?_);(repeat refine eV ?_);refine aa (hK _ (wK [2, 3] ?_));clear hK K;refine ei 2 3 1 (by decide) (by simp only [ac, pZ, simprocAttr]) [2, 3] (by simp only [ac, pZ, simprocAttr]; exact rfl) ?_;exact ak (an Tryz.results31 (.two (.own _ _ _ _ rfl rfl (own1 (az _ []))) (.plain _ _ rfl)) (by decide) rfl)
 ·cases hb
end
section
set_option maxHeartbeats 0
set_option maxRecDepth 8000
open Go Go.RowKit
theorem O3 (o : Bool) (t : TypeId) (xs : List Int) (n : Nat) (hn : n ≤ 1048576) : DCalls Tryz.prog 169 [.c (.sl o t 1 (xs.map iC)), .c (.p (.int .i64 n))] (fun r => r = [.c (.p (.bool (dc xs n)))]) := ga fun w vs h1 h2 => by
 obtain ⟨u, v, rfl, g1, g2⟩ := Gr h1 h2;rw [rn g2];exact (H8 u xs n w (mq g1) (by omega)).mono fun _ _ h => RetQ.v h
def zBRb51 := PLift.up (And.intro ap (And.intro bc (And.intro b9 (And.intro bg (And.intro ay (And.intro @if_pos.{1} (And.intro @b6 (And.intro @bq (And.intro @ba (And.intro @a8 (And.intro dw (And.intro @dx (And.intro @cq @trivial)))))))))))))
theorem og : type_of% zBRb51.down := zBRb51.down
theorem Bh (f : NF) (N : Net) (o : Bool) (t : TypeId) (xs : List Int) (hn0 : N.ends.length ≤ 1000000) : DCalls Tryz.prog 97 [.agg (bi f N), .c (.sl o t 1 (xs.map iC))] (fun r => r = [.c (.p (.bool (bj N && dc xs N.ends.length)))]) := by
 refine am Tryz.func97 rfl (by rw [Tryz.ntmps97]; simp) fun w0 => ?_;rw [Tryz.ntmps97];have dX := og;simp only [b4, bd, Arg.av, bi, b7, ints, ends];refine ab (dR fun K hK => ?_);(repeat refine eV ?_);refine aa (hK _ (wK [1, 2] ?_));clear hK K;refine ab (dR fun K hK => ?_);(repeat refine eV ?_);refine cL rfl ⟨rfl, _, rfl⟩ (by omega) (by first | exact Bu | exact Pi) (ns ⟨false, f.t1, f.o2, f.t2, false, f.t3, false, f.t4⟩ N) ?_;rintro _ rfl;(repeat refine eV ?_);obtain h1 | h1 := Bool.eq_false_or_eq_true (bj N)
 ·have dX := And.intro dX (@h1);(repeat refine eV ?_);have dX := And.intro dX (@h1);refine cgF rfl rfl ⟨rfl, _, rfl⟩ (by omega) (by first | exact Bu | exact Pi) (O3 o t xs N.ends.length (by omega)) ?_;rintro _ rfl;(repeat refine eV ?_);have dX := And.intro dX (@h1);(repeat refine eV ?_);have dK := @h1;refine aa (hK _ (ax [4] ?_));clear hK K;exact ak (an Tryz.results97 (.one (.plain _ _ rfl)) (by decide) (by rw [h1]; rfl))
 ·have dX := And.intro dX (@h1);(repeat refine eV ?_);have dX := And.intro dX (@h1);refine csF ?_;(repeat refine eV ?_);have dX := And.intro dX (@h1);(repeat refine eV ?_);have dK := @h1;refine aa (hK _ (ax [4] ?_));clear hK K;exact ak (an Tryz.results97 (.one (.plain _ _ rfl)) (by decide) (by rw [h1]; rfl))
theorem Mk (f : NF) (N : Net) (o : Bool) (t : TypeId) (xs : List Int) (hi : N.ids.length ≤ 2097152) (hn0 : N.ends.length ≤ 1000000) : DCalls Tryz.prog 91 [.agg (bi f N), .c (.sl o t 1 (xs.map iC))] (fun r => r = [.c (.p (.bool (bj N && dc xs N.ends.length)))]) := by
 refine am Tryz.func91 rfl (by rw [Tryz.ntmps91]; simp) fun w0 => ?_;rw [Tryz.ntmps91];have dX := og;simp only [b4, bd, Arg.av, bi, b7, ints, ends];refine ab (dR fun K hK => ?_);(repeat refine eV ?_);refine aa (hK _ (wK [1, 2] ?_));clear hK K;refine ab (dR fun K hK => ?_);(repeat refine eV ?_);refine cL rfl ⟨rfl, _, rfl⟩ (by omega) (by first | exact mt | exact Kg) (ez ⟨false, f.t1, f.o2, f.t2, false, f.t3, false, f.t4⟩ N hi) ?_;rintro _ rfl;(repeat refine eV ?_);obtain h1 | h1 := Bool.eq_false_or_eq_true (bj N)
 ·have dX := And.intro dX (@h1);(repeat refine eV ?_);have dX := And.intro dX (@h1);refine cgF rfl rfl ⟨rfl, _, rfl⟩ (by omega) (by first | exact mt | exact Kg) (mu o t xs N.ends.length (by omega)) ?_;rintro _ rfl;(repeat refine eV ?_);have dX := And.intro dX (@h1);(repeat refine eV ?_);have dK := @h1;refine aa (hK _ (ax [4] ?_));clear hK K;exact ak (an Tryz.results91 (.one (.plain _ _ rfl)) (by decide) (by rw [h1]; rfl))
 ·have dX := And.intro dX (@h1);(repeat refine eV ?_);have dX := And.intro dX (@h1);refine csF ?_;(repeat refine eV ?_);have dX := And.intro dX (@h1);(repeat refine eV ?_);have dK := @h1;refine aa (hK _ (ax [4] ?_));clear hK K;exact ak (an Tryz.results91 (.one (.plain _ _ rfl)) (by decide) (by rw [h1]; rfl))
theorem Hi (f : NF) (N : Net) (o : Bool) (t : TypeId) (ord : List Int) (al : Nat) (hg : bj N = true) (hp : dc ord N.ends.length = true) (h1 : 1 ≤ al) (h2 : al ≤ 40) : DCalls Tryz.prog 99 [.agg (bi f N), .c (.sl o t 1 (ord.map iC)), .c (.p (.int .i64 al))] (fun r => r = [.own false [.sl true 3 1 ((sorted (co (cx N al) ord N.ends.length)).map iC)]]) := by
 obtain ⟨hs, hn, hids, hdg⟩ := cp hg;obtain ⟨hol, hoi, hod⟩ := l9 hp;have hs0 : sorted (co (cx N al) ord 0) = [] := by simp [co, sorted]
 refine am Tryz.func99 rfl (by rw [Tryz.ntmps99]; simp) fun w0 => ?_;rw [Tryz.ntmps99];have dX := og;simp only [b4, bd, Arg.av, bi, b7, ints, ends];refine ab (dR fun K hK => ?_);(repeat refine eV ?_);refine aa (hK _ (wK [1, 2, 3] ?_));clear hK K;refine ab (dR fun K hK => ?_);(repeat refine eV ?_);refine aa (hK _ (wK [1, 2, 3, 7] ?_));clear hK K;refine ab ?_;have dX := And.intro dX (@hol);refine ab (dR fun K hK => ?_);(repeat refine eV ?_);have dK := @hol;refine aa (hK _ (ax [2, 3, 7, 10, 11, 12] ?_));clear hK K;refine ae ?_;refine ei 7 3 1 (by decide) (by simp only [ac, pZ, simprocAttr]) [2, 3, 7, 10, 11, 12] (by simp only [ac, pZ, simprocAttr]; exact rfl) ?_;refine au (X := Nat) (fun k => k ≤ N.ends.length) (fun k => [(12, .c (.p (.int .i64 k)))]) (fun k => [((7, 0), ⟨none, [.sl true 3 1 ((sorted (co (cx N al) ord k)).map iC)]⟩)]) (fun k => N.ends.length - k) 0 (Nat.zero_le _) (by first | rfl | (simp only [ac, pZ, simprocAttr, Int.natCast_zero, hs0] <;> rfl)) ?_;rintro k hk;intro E hE;simp only [ac, pZ, simprocAttr] at hE;subst hE;have hgl := n9 (bad := cx N al) (ord := ord) k;refine ab (dR fun K hK => ?_);(repeat refine eV ?_);refine aa (hK _ (wK [2, 3, 7, 10, 11, 12, 13] ?_));clear hK K;refine ab (dI (fun hb => ?_) (fun hb => ?_))
 ·have hk1 : k < N.ends.length := by simpa using hb
  have hnd := md (bad := cx N al) hp (k + 1) hk1;obtain ⟨v, hve⟩ : ∃ v : Nat, gi ord k = v := ⟨(gi ord k).toNat, by have := hoi k hk1; omega⟩;have hvl : v < N.ends.length := by have := hoi k hk1; omega
  have hns : co (cx N al) ord (k + 1) = if cx N al v (co (cx N al) ord k) = true then co (cx N al) ord k else co (cx N al) ord k ++ [(v : Int)] := by rw [co, hve, Int.toNat_natCast]
  have hmem : ∀ x ∈ sorted (co (cx N al) ord k), 0 ≤ x ∧ x < N.ends.length := fun x hx => by
   obtain ⟨i, hi, he⟩ := fp (bad := cx N al) (ord := ord) k (e8.1 hx);have h3 := hoi i (by omega);omega
  have hbs : inB (nrF (bo N v) (sorted (co (cx N al) ord k)) (sorted (co (cx N al) ord k)).length) 0 ((al : Int) - 1) = cx N al v (co (cx N al) ord k) := by rw [Qr, Gp]
  obtain ⟨S, hS⟩ : ∃ S, S = co (cx N al) ord k := ⟨_, rfl⟩;rw [← hS] at hns hgl hmem hbs ⊢;have hsl : (sorted S).length ≤ 1000000 := by rw [dm]; omega
  refine af ?_;show DW _ _ _ _ _;refine ab (ae ?_);have dX := And.intro dX (@hve);refine ab (dR fun K hK => ?_);(repeat refine eV ?_);have dK := @hve;refine aa (hK _ (ax [2, 3, 7, 9, 10, 11, 12] ?_));clear hK K;refine ab (dR fun K hK => ?_);(repeat refine eV ?_);refine cL rfl ⟨rfl, _, rfl⟩ (by omega) (by first | exact C9 | exact qe) (Jx ⟨false, f.t1, f.o2, f.t2, false, f.t3, false, f.t4⟩ N true 3 (sorted S) v hg hvl hmem hsl) ?_;rintro _ rfl;(repeat refine eV ?_);refine cL rfl ⟨rfl, _, rfl⟩ (by omega) (by first | exact C9 | exact qe) (uq (nrF (bo N v) (sorted S) (sorted S).length) 0 ((al : Int) - 1)) ?_;rintro _ rfl;(repeat refine eV ?_);have dK := @hbs;refine aa (hK _ (ax [2, 3, 7, 9, 10, 11, 12, 23] ?_));clear hK K;obtain h3 | h3 := Bool.eq_false_or_eq_true (cx N al v S)
  ·have hm : co (cx N al) ord (k + 1) = S := by rw [hns, if_pos h3]
   rw [h3];refine dI ?_ ?_<;>intro hb
   ·cases hb
   ·refine af ?_;show DW _ _ _ _ _;refine dR fun K hK => ?_;(repeat refine eV ?_);have dK := And.intro @bt @hm;refine aa (hK _ ?_);clear hK K;show ∃ x, _ ∧ _ ∧ Weak _ _;refine ⟨k + 1, ?_, ?_, aq [2, 3, 7, 10, 11, 12]⟩
    ·omega
    ·omega
  ·have hm : co (cx N al) ord (k + 1) = S ++ [(v : Int)] := by rw [hns, if_neg (by rw [h3]; decide)]
   have hq : na (sorted S) v = sorted (co (cx N al) ord (k + 1)) := by rw [hm]; exact (vt (by rw [hm] at hnd; exact hnd)).symm
   rw [h3];refine dI ?_ ?_<;>intro hb
   ·refine dR fun K hK => ?_;(repeat refine eV ?_);refine gmF (hag := fun _ => rfl) rfl ⟨rfl, _, rfl⟩ (by omega) (by first | exact Tx) (Kh 3 (sorted S) v hsl rfl) ?_;rintro _ rfl;refine Il ?_;(repeat refine eV ?_);have dK := @hq;refine aa (hK _ (ax [2, 3, 7, 10, 11, 12] ?_));clear hK K;refine dR fun K hK => ?_;(repeat refine eV ?_);have dK := @bt;refine aa (hK _ ?_);clear hK K;show ∃ x, _ ∧ _ ∧ Weak _ _;refine ⟨k + 1, ?_, ?_, aq [2, 3, 7, 10, 11, 12]⟩
    ·omega
    ·omega
   ·cases hb
 ·have hk2 : k = N.ends.length := by
   have : ¬ k < N.ends.length := by simpa using hb
   omega
  rw [hk2];refine ao ?_;refine bb [7] (by simp only [ac, pZ, simprocAttr]; exact rfl) ?_;refine ab (dR fun K hK => ?_);(repeat refine eV ?_);refine aa (hK _ (wK [6] ?_));clear hK K;exact ak (an Tryz.results99 (.one (.own _ _ _ _ rfl rfl (own1 (az _ _)))) (by decide) rfl)
theorem w5 (f : NF) (N : Net) (o : Bool) (t : TypeId) (ord : List Int) (al : Nat) (hg : bj N = true) (hp : dc ord N.ends.length = true) (h1 : 1 ≤ al) (h2 : al ≤ 40) : DCalls Tryz.prog 22 [.agg (bi f N), .c (.sl o t 1 (ord.map iC)), .c (.p (.int .i64 al))] (fun r => r = [.own false [.sl true 3 1 ((sorted (co (cx N al) ord N.ends.length)).map iC)], .c (.p (.bool true))]) := by
 obtain ⟨hs, hn, hids, hdg⟩ := cp hg;have hin : inB (al : Int) 1 40 = true := ce.2 (by omega);have hor : (bj N && dc ord N.ends.length) = true := by rw [hg, hp]; rfl
 refine am Tryz.func22 rfl (by rw [Tryz.ntmps22]; simp) fun w0 => ?_;rw [Tryz.ntmps22];have dX := og;simp only [b4, bd, Arg.av, bi, b7, ints, ends];refine ab (dR fun K hK => ?_);(repeat refine eV ?_);refine aa (hK _ (wK [1, 2, 3] ?_));clear hK K;refine ab ?_;refine ab (dR fun K hK => ?_);(repeat refine eV ?_);refine cL rfl ⟨rfl, _, rfl⟩ (by omega) (by first | exact Kd | exact qe) (Bh ⟨false, f.t1, f.o2, f.t2, false, f.t3, false, f.t4⟩ N o t ord (by omega)) ?_;rintro _ rfl;(repeat refine eV ?_);have dX := And.intro dX (@hor);(repeat refine eV ?_);have dX := And.intro dX (@hor);refine cgF rfl rfl ⟨rfl, _, rfl⟩ (by omega) (by first | exact Kd | exact qe) (uq al 1 40) ?_;rintro _ rfl;(repeat refine eV ?_);have dX := And.intro dX (And.intro @hor @hin);(repeat refine eV ?_);have dK := And.intro @hor @hin;refine aa (hK _ (ax [1, 2, 3, 16] ?_));clear hK K;refine dI ?_ ?_<;>intro hb
 ·cases hb
 ·refine af ?_;show DW _ _ _ _ _;refine ab (dR fun K hK => ?_);(repeat refine eV ?_);refine cL rfl ⟨rfl, _, rfl⟩ (by omega) (by first | exact Xk) (Hi ⟨false, f.t1, f.o2, f.t2, false, f.t3, false, f.t4⟩ N o t ord al hg hp h1 h2) ?_;rintro _ rfl;(repeat refine eV ?_);refine aa (hK _ (wK [6, 7] ?_));clear hK K;exact ak (an Tryz.results22 (.two (.own _ _ _ _ rfl rfl (own1 (az _ _))) (.plain _ _ rfl)) (by decide) rfl)
theorem vj (f : NF) (N : Net) (o : Bool) (t : TypeId) (ord : List Int) (al : Int) (hi : N.ids.length ≤ 2097152) (hn0 : N.ends.length ≤ 1000000) (h : (bj N && dc ord N.ends.length && inB al 1 40) = false) : DCalls Tryz.prog 22 [.agg (bi f N), .c (.sl o t 1 (ord.map iC)), .c (.p (.int .i64 al))] (fun r => r = [.own false [.sl true 3 1 (([] : List Int).map iC)], .c (.p (.bool false))]) := by
 refine am Tryz.func22 rfl (by rw [Tryz.ntmps22]; simp) fun w0 => ?_;rw [Tryz.ntmps22];have dX := og;simp only [b4, bd, Arg.av, bi, b7, ints, ends];refine ab (dR fun K hK => ?_);(repeat refine eV ?_);refine aa (hK _ (wK [1, 2, 3] ?_));clear hK K;refine ab ?_;refine ab (dR fun K hK => ?_);(repeat refine eV ?_);refine cL rfl ⟨rfl, _, rfl⟩ (by omega) (by first | exact Kd | exact qe) (Bh ⟨false, f.t1, f.o2, f.t2, false, f.t3, false, f.t4⟩ N o t ord hn0) ?_;rintro _ rfl;(repeat refine eV ?_);obtain h1 | h1 := Bool.eq_false_or_eq_true (bj N && dc ord N.ends.length)
 ·rw [h1, Bool.true_and] at h;have dX := And.intro dX (@h1);(repeat refine eV ?_);have dX := And.intro dX (@h1);refine cgF rfl rfl ⟨rfl, _, rfl⟩ (by omega) (by first | exact Kd | exact qe) (uq al 1 40) ?_;rintro _ rfl;(repeat refine eV ?_);have dX := And.intro dX (And.intro @h1 @h);(repeat refine eV ?_);have dK := And.intro @h1 @h;refine aa (hK _ (ax [1, 2, 3, 16] ?_));clear hK K;refine dI ?_ ?_<;>intro hb
  ·refine ab (dR fun K hK => ?_);(repeat refine eV ?_);refine aa (hK _ (wK [6, 7] ?_));clear hK K;refine ei 6 3 1 (by decide) (by simp only [ac, pZ, simprocAttr]) [6, 7] (by simp only [ac, pZ, simprocAttr]; exact rfl) ?_;exact ak (an Tryz.results22 (.two (.own _ _ _ _ rfl rfl (own1 (az _ []))) (.plain _ _ rfl)) (by decide) rfl)
  ·cases hb
 ·have dX := And.intro dX (@h1);(repeat refine eV ?_);have dX := And.intro dX (@h1);refine csF ?_;(repeat refine eV ?_);have dX := And.intro dX (@h1);(repeat refine eV ?_);have dK := @h1;refine aa (hK _ (ax [1, 2, 3, 16] ?_));clear hK K;refine dI ?_ ?_<;>intro hb
  ·refine ab (dR fun K hK => ?_);(repeat refine eV ?_);refine aa (hK _ (wK [6, 7] ?_));clear hK K;refine ei 6 3 1 (by decide) (by simp only [ac, pZ, simprocAttr]) [6, 7] (by simp only [ac, pZ, simprocAttr]; exact rfl) ?_;exact ak (an Tryz.results22 (.two (.own _ _ _ _ rfl rfl (own1 (az _ []))) (.plain _ _ rfl)) (by decide) rfl)
  ·cases hb
theorem vk (f : NF) (N : Net) (o : Bool) (t : TypeId) (ord : List Int) (al : Int) (hi : N.ids.length ≤ 2097152) (hn0 : N.ends.length ≤ 1000000) (h : (bj N && dc ord N.ends.length && inB al 1 40) = false) : DCalls Tryz.prog 21 [.agg (bi f N), .c (.sl o t 1 (ord.map iC)), .c (.p (.int .i64 al))] (fun r => r = [.own false [.sl true 3 1 (([] : List Int).map iC)], .c (.p (.bool false))]) := by
 refine am Tryz.func21 rfl (by rw [Tryz.ntmps21]; simp) fun w0 => ?_;rw [Tryz.ntmps21];have dX := og;simp only [b4, bd, Arg.av, bi, b7, ints, ends];refine ab (dR fun K hK => ?_);(repeat refine eV ?_);refine aa (hK _ (wK [1, 3, 5] ?_));clear hK K;refine ab ?_;refine ab (dR fun K hK => ?_);(repeat refine eV ?_);refine cL rfl ⟨rfl, _, rfl⟩ (by omega) (by first | exact Ke | exact f9) (Mk ⟨false, f.t1, f.o2, f.t2, false, f.t3, false, f.t4⟩ N o t ord hi hn0) ?_;rintro _ rfl;(repeat refine eV ?_);obtain h1 | h1 := Bool.eq_false_or_eq_true (bj N && dc ord N.ends.length)
 ·rw [h1, Bool.true_and] at h;have dX := And.intro dX (@h1);(repeat refine eV ?_);have dX := And.intro dX (@h1);refine cgF rfl rfl ⟨rfl, _, rfl⟩ (by omega) (by first | exact Ke | exact f9) (iw al 1 40) ?_;rintro _ rfl;(repeat refine eV ?_);have dX := And.intro dX (And.intro @h1 @h);(repeat refine eV ?_);have dK := And.intro @h1 @h;refine aa (hK _ (ax [1, 3, 5, 20] ?_));clear hK K;refine dI ?_ ?_<;>intro hb
  ·refine ab (dR fun K hK => ?_);(repeat refine eV ?_);refine aa (hK _ (wK [6, 7] ?_));clear hK K;refine ei 6 3 1 (by decide) (by simp only [ac, pZ, simprocAttr]) [6, 7] (by simp only [ac, pZ, simprocAttr]; exact rfl) ?_;exact ak (an Tryz.results21 (.two (.own _ _ _ _ rfl rfl (own1 (az _ []))) (.plain _ _ rfl)) (by decide) rfl)
  ·cases hb
 ·have dX := And.intro dX (@h1);(repeat refine eV ?_);have dX := And.intro dX (@h1);refine csF ?_;(repeat refine eV ?_);have dX := And.intro dX (@h1);(repeat refine eV ?_);have dK := @h1;refine aa (hK _ (ax [1, 3, 5, 20] ?_));clear hK K;refine dI ?_ ?_<;>intro hb
  ·refine ab (dR fun K hK => ?_);(repeat refine eV ?_);refine aa (hK _ (wK [6, 7] ?_));clear hK K;refine ei 6 3 1 (by decide) (by simp only [ac, pZ, simprocAttr]) [6, 7] (by simp only [ac, pZ, simprocAttr]; exact rfl) ?_;exact ak (an Tryz.results21 (.two (.own _ _ _ _ rfl rfl (own1 (az _ []))) (.plain _ _ rfl)) (by decide) rfl)
  ·cases hb
theorem M7 (k : Nat) (p : Nat → Bool) : jc (k + 1) p = (jc k p || p k) := by
 unfold jc;rw [List.range_succ, List.any_append];simp
theorem M6 (p : Nat → Bool) : jc 0 p = false := rfl
theorem Ji (f : NF) (N : Net) (o : Bool) (t : TypeId) (S : List Int) (al be : Nat) (hg : bj N = true) (hr : js S 0 ((N.ends.length : Int) - 1) = true) (hl : S.length ≤ 1000000) (hS : ∀ x ∈ S, 0 ≤ x ∧ x < N.ends.length) (h1 : 1 ≤ al) (h2 : al ≤ 40) (h3 : be ≤ 40)
 (hap : ∀ v w : Nat, (v : Int) ∈ S → (w : Int) ∈ S → v ≠ w → inB (gi (bo N v) w) 0 ((al : Int) - 1) = false) (hcv : ∀ v, v < N.ends.length → jc S.length (fun j => inB (gi (bo N v) (gi S j).toNat) 0 be) = true) : DCalls Tryz.prog 23 [.agg (bi f N), .c (.sl o t 1 (S.map iC)), .c (.p (.int .i64 al)), .c (.p (.int .i64 be))] (fun r => r = [.c (.p (.bool true)), .c (.p (.bool true))]) := by
 obtain ⟨hs, hn, hids, hdg⟩ := cp hg;have hia : inB (al : Int) 1 40 = true := ce.2 (by omega);have hib : inB (be : Int) 0 40 = true := ce.2 (by omega);have hal : (D3 N).length = N.ends.length := nf _ _;refine am Tryz.func23 rfl (by rw [Tryz.ntmps23]; simp) fun w0 => ?_;rw [Tryz.ntmps23];have dX := og;simp only [b4, bd, Arg.av, bi, b7, ints, ends];refine ab (dR fun K hK => ?_);(repeat refine eV ?_);refine aa (hK _ (wK [1, 2, 3, 4] ?_));clear hK K;refine ab ?_;refine ab (dR fun K hK => ?_);(repeat refine eV ?_);refine cL rfl ⟨rfl, _, rfl⟩ (by omega) (by first | exact Fk | exact f9) (ny ⟨false, f.t1, f.o2, f.t2, false, f.t3, false, f.t4⟩ N o t S (by omega) (by omega)) ?_;rintro _ rfl;(repeat refine eV ?_);have dX := And.intro dX (And.intro @hg @hr);(repeat refine eV ?_);have dX := And.intro dX (And.intro @hg @hr);refine cgF rfl rfl ⟨rfl, _, rfl⟩ (by omega) (by first | exact Fk | exact f9) (iw al 1 40) ?_;rintro _ rfl;(repeat refine eV ?_);have dX := And.intro dX (And.intro @hg (And.intro @hr @hia));(repeat refine eV ?_);have dX := And.intro dX (And.intro @hg (And.intro @hr @hia));refine cgF rfl rfl ⟨rfl, _, rfl⟩ (by omega) (by first | exact Fk | exact f9) (iw be 0 40) ?_;rintro _ rfl;(repeat refine eV ?_);have dX := And.intro dX (And.intro @hg (And.intro @hr (And.intro @hia @hib)));(repeat refine eV ?_);have dK := And.intro @hg (And.intro @hr (And.intro @hia @hib));refine aa (hK _ (ax [1, 2, 3, 4, 28] ?_));clear hK K;refine dI ?_ ?_<;>intro hb
 ·cases hb
 ·refine af ?_;show DW _ _ _ _ _;refine ab ?_;refine ab (dR fun K hK => ?_);(repeat refine eV ?_);refine cL rfl ⟨rfl, _, rfl⟩ (by omega) (by first | exact Pd) (j7 ⟨false, f.t1, f.o2, f.t2, false, f.t3, false, f.t4⟩ N hg) ?_;rintro _ rfl;(repeat refine eV ?_);have dK := @hal;refine aa (hK _ (ax [1, 2, 3, 30, 31, 32] ?_));clear hK K;refine mh 30 [1, 2, 3, 30, 31, 32] rfl rfl (by simp only [ac, pZ, simprocAttr, sj, qc, jf, je, fw]; exact rfl) ?_;refine ae ?_;refine au (X := Nat) (fun v => v ≤ N.ends.length) (fun v => [(32, .c (.p (.int .i64 v)))]) (fun v => []) (fun v => N.ends.length - v) 0 (Nat.zero_le _) (by first | rfl | (simp only [ac, pZ, simprocAttr, Int.natCast_zero] <;> rfl)) ?_;rintro v hv;intro E hE;simp only [ac, pZ, simprocAttr] at hE;subst hE;refine ab (dR fun K hK => ?_);(repeat refine eV ?_);refine aa (hK _ (wK [1, 2, 3, 30, 31, 32, 33] ?_));clear hK K;refine ab (dI (fun hb => ?_) (fun hb => ?_))
  ·have hv1 : v < N.ends.length := by simpa using hb
   have hlg : lg (D3 N) v = bo N v := Ii hv1;have hdl : (bo N v).length = N.ends.length := (c9 hs hv1).len;have hcv1 := hcv v hv1;have hap1 := hap v;obtain ⟨D, hD⟩ : ∃ D, D = bo N v := ⟨_, rfl⟩;rw [← hD] at hlg hdl hcv1 hap1;obtain ⟨p, hpp⟩ : ∃ p : Nat → Bool, p = fun j => inB (gi D (gi S j).toNat) 0 be := ⟨_, rfl⟩;rw [← hpp] at hcv1;refine af ?_;show DW _ _ _ _ _;refine ab (ae ?_);have dX := And.intro dX (@hlg);refine ab (dR fun K hK => ?_);(repeat refine eV ?_);have dK := @hlg;refine aa (hK _ (ax [1, 2, 3, 10, 11, 30, 31, 32] ?_));clear hK K;refine ab (dR fun K hK => ?_);(repeat refine eV ?_);refine aa (hK _ (wK [1, 2, 3, 10, 11, 12, 30, 31, 32] ?_));clear hK K;refine ab ?_;refine ab (dR fun K hK => ?_);(repeat refine eV ?_);refine aa (hK _ (wK [1, 2, 3, 10, 11, 12, 30, 31, 32, 37, 38, 39] ?_));clear hK K;refine ae ?_;refine au (X := Nat) (fun k => k ≤ S.length) (fun k => [(12, .c (.p (.bool (jc k p)))), (39, .c (.p (.int .i64 k)))]) (fun k => []) (fun k => S.length - k) 0 (Nat.zero_le _) (by first | rfl | (simp only [ac, pZ, simprocAttr, Int.natCast_zero, M6] <;> rfl)) ?_;rintro k hk;intro E hE;simp only [ac, pZ, simprocAttr] at hE;subst hE;refine ab (dR fun K hK => ?_);(repeat refine eV ?_);refine aa (hK _ (wK [1, 2, 3, 10, 11, 12, 30, 31, 32, 37, 38, 39, 40] ?_));clear hK K;refine ab (dI (fun hb => ?_) (fun hb => ?_))
   ·have hk1 : k < S.length := by simpa using hb
    have hkm : gi S k ∈ S := by rw [bm hk1]; exact List.getElem_mem hk1
    obtain ⟨w, hw, hwl⟩ : ∃ w : Nat, gi S k = w ∧ w < N.ends.length := by
     have h := hS _ hkm;exact ⟨(gi S k).toNat, by omega, by omega⟩
    rw [hw] at hkm;have hpk : inB (gi D w) 0 (be : Int) = p k := by rw [hpp]; show _ = inB (gi D (gi S k).toNat) 0 be; rw [hw, Int.toNat_natCast]
    have hsu := M7 k p;refine af ?_;show DW _ _ _ _ _;refine ab (ae ?_);have dX := And.intro dX (@hw);refine ab (dR fun K hK => ?_);(repeat refine eV ?_);have dK := @hw;refine aa (hK _ (ax [1, 2, 3, 10, 11, 12, 14, 30, 31, 32, 37, 38, 39] ?_));clear hK K;obtain h5 | h5 := Bool.eq_false_or_eq_true (jc k p)
    ·have hy : jc (k + 1) p = true := by rw [hsu, h5]; rfl
     rw [h5];refine ab (dR fun K hK => ?_);(repeat refine eV ?_);refine csF ?_;(repeat refine eV ?_);(repeat refine eV ?_);refine aa (hK _ (wK [1, 2, 3, 10, 11, 12, 14, 30, 31, 32, 37, 38, 39] ?_));clear hK K
     by_cases hwv : (w : Int) = (v : Int)
     ·have e1 : ((w : Int) != (v : Int)) = false := by simp [hwv]
      refine ab (dR fun K hK => ?_)
      repeat (apply bz; (focus exact rfl); (focus (simp (disch := first | omega | (intros; contradiction)) only [ac, bl, pZ, simprocAttr, ap, bc, b9, bg, ay, if_pos, b6, bq, ba, a8, dw, dx, cq , f6, f9, e1]; exact rfl)))
      have dX := And.intro dX (@e1);refine csF ?_;(repeat refine eV ?_);have dX := And.intro dX (@e1);(repeat refine eV ?_);have dX := And.intro dX (@e1);refine csF ?_;(repeat refine eV ?_);have dX := And.intro dX (@e1);(repeat refine eV ?_);have dK := @e1;refine aa (hK _ (ax [1, 2, 3, 10, 11, 12, 30, 31, 32, 37, 38, 39, 68] ?_));clear hK K;refine dI ?_ ?_<;>intro hb
      ·cases hb
      ·refine af ?_;show DW _ _ _ _ _;refine dR fun K hK => ?_;(repeat refine eV ?_);have dK := And.intro @bt @hy;refine aa (hK _ ?_);clear hK K;show ∃ x, _ ∧ _ ∧ Weak _ _;refine ⟨k + 1, ?_, ?_, aq [1, 2, 3, 10, 11, 12, 30, 31, 32, 37, 38, 39]⟩
       ·omega
       ·omega
     ·have e1 : ((w : Int) != (v : Int)) = true := by simp [hwv]
      refine ab (dR fun K hK => ?_)
      repeat (apply bz; (focus exact rfl); (focus (simp (disch := first | omega | (intros; contradiction)) only [ac, bl, pZ, simprocAttr, ap, bc, b9, bg, ay, if_pos, b6, bq, ba, a8, dw, dx, cq , f6, f9, e1]; exact rfl)))
      refine cgF rfl rfl ⟨rfl, _, rfl⟩ (by omega) (by first | exact f6 | exact f9) (mr o t S v hl) ?_;rintro _ rfl
      repeat (apply bz; (focus exact rfl); (focus (simp (disch := first | omega | (intros; contradiction)) only [ac, bl, pZ, simprocAttr, ap, bc, b9, bg, ay, if_pos, b6, bq, ba, a8, dw, dx, cq , f6, f9, e1]; exact rfl)))
      obtain h6 | h6 := Bool.eq_false_or_eq_true (decide (0 ≤ th S (v : Int)))
      ·have hvm : (v : Int) ∈ S := iz.1 (of_decide_eq_true h6);have h7 := hap1 w hvm hkm (fun h => hwv (by rw [h]));have dX := And.intro dX (And.intro @e1 (And.intro @h6 @Int.toNat_natCast));(repeat refine eV ?_);refine cgF rfl rfl ⟨rfl, _, rfl⟩ (by omega) (by first | exact f6 | exact f9) (iw (gi D w) 0 ((al : Int) - 1)) ?_;rintro _ rfl
       repeat (apply bz; (focus exact rfl); (focus (simp (disch := first | omega | (intros; contradiction)) only [ac, bl, pZ, simprocAttr, ap, bc, b9, bg, ay, if_pos, b6, bq, ba, a8, dw, dx, cq , f6, f9, e1, h6, Int.toNat_natCast]; exact rfl)))
       have dX := And.intro dX (And.intro @e1 (And.intro @h6 @h7));(repeat refine eV ?_);have dK := And.intro @e1 (And.intro @h6 @h7);refine aa (hK _ (ax [1, 2, 3, 10, 11, 12, 30, 31, 32, 37, 38, 39, 68] ?_));clear hK K;refine dI ?_ ?_<;>intro hb
       ·cases hb
       ·refine af ?_;show DW _ _ _ _ _;refine dR fun K hK => ?_;(repeat refine eV ?_);have dK := And.intro @bt @hy;refine aa (hK _ ?_);clear hK K;show ∃ x, _ ∧ _ ∧ Weak _ _;refine ⟨k + 1, ?_, ?_, aq [1, 2, 3, 10, 11, 12, 30, 31, 32, 37, 38, 39]⟩
        ·omega
        ·omega
      ·have dX := And.intro dX (And.intro @e1 @h6);(repeat refine eV ?_);have dX := And.intro dX (And.intro @e1 @h6);refine csF ?_;(repeat refine eV ?_);have dX := And.intro dX (And.intro @e1 @h6);(repeat refine eV ?_);have dK := And.intro @e1 @h6;refine aa (hK _ (ax [1, 2, 3, 10, 11, 12, 30, 31, 32, 37, 38, 39, 68] ?_));clear hK K;refine dI ?_ ?_<;>intro hb
       ·cases hb
       ·refine af ?_;show DW _ _ _ _ _;refine dR fun K hK => ?_;(repeat refine eV ?_);have dK := And.intro @bt @hy;refine aa (hK _ ?_);clear hK K;show ∃ x, _ ∧ _ ∧ Weak _ _;refine ⟨k + 1, ?_, ?_, aq [1, 2, 3, 10, 11, 12, 30, 31, 32, 37, 38, 39]⟩
        ·omega
        ·omega
    ·have hy : jc (k + 1) p = p k := by rw [hsu, h5]; rfl
     rw [h5];have dX := And.intro dX (@Int.toNat_natCast);refine ab (dR fun K hK => ?_);(repeat refine eV ?_);have dX := And.intro dX (@Int.toNat_natCast);refine cgF rfl rfl ⟨rfl, _, rfl⟩ (by omega) (by first | exact f9) (iw (gi D w) 0 be) ?_;rintro _ rfl;(repeat refine eV ?_);have dX := And.intro dX (@hpk);(repeat refine eV ?_);have dK := @hpk;refine aa (hK _ (ax [1, 2, 3, 10, 11, 12, 14, 30, 31, 32, 37, 38, 39] ?_));clear hK K
     by_cases hwv : (w : Int) = (v : Int)
     ·have e1 : ((w : Int) != (v : Int)) = false := by simp [hwv]
      refine ab (dR fun K hK => ?_)
      repeat (apply bz; (focus exact rfl); (focus (simp (disch := first | omega | (intros; contradiction)) only [ac, bl, pZ, simprocAttr, ap, bc, b9, bg, ay, if_pos, b6, bq, ba, a8, dw, dx, cq , f6, f9, e1]; exact rfl)))
      have dX := And.intro dX (@e1);refine csF ?_;(repeat refine eV ?_);have dX := And.intro dX (@e1);(repeat refine eV ?_);have dX := And.intro dX (@e1);refine csF ?_;(repeat refine eV ?_);have dX := And.intro dX (@e1);(repeat refine eV ?_);have dK := @e1;refine aa (hK _ (ax [1, 2, 3, 10, 11, 12, 30, 31, 32, 37, 38, 39, 68] ?_));clear hK K;refine dI ?_ ?_<;>intro hb
      ·cases hb
      ·refine af ?_;show DW _ _ _ _ _;refine dR fun K hK => ?_;(repeat refine eV ?_);have dK := And.intro @bt @hy;refine aa (hK _ ?_);clear hK K;show ∃ x, _ ∧ _ ∧ Weak _ _;refine ⟨k + 1, ?_, ?_, aq [1, 2, 3, 10, 11, 12, 30, 31, 32, 37, 38, 39]⟩
       ·omega
       ·omega
     ·have e1 : ((w : Int) != (v : Int)) = true := by simp [hwv]
      refine ab (dR fun K hK => ?_)
      repeat (apply bz; (focus exact rfl); (focus (simp (disch := first | omega | (intros; contradiction)) only [ac, bl, pZ, simprocAttr, ap, bc, b9, bg, ay, if_pos, b6, bq, ba, a8, dw, dx, cq , f6, f9, e1]; exact rfl)))
      refine cgF rfl rfl ⟨rfl, _, rfl⟩ (by omega) (by first | exact f6 | exact f9) (mr o t S v hl) ?_;rintro _ rfl
      repeat (apply bz; (focus exact rfl); (focus (simp (disch := first | omega | (intros; contradiction)) only [ac, bl, pZ, simprocAttr, ap, bc, b9, bg, ay, if_pos, b6, bq, ba, a8, dw, dx, cq , f6, f9, e1]; exact rfl)))
      obtain h6 | h6 := Bool.eq_false_or_eq_true (decide (0 ≤ th S (v : Int)))
      ·have hvm : (v : Int) ∈ S := iz.1 (of_decide_eq_true h6);have h7 := hap1 w hvm hkm (fun h => hwv (by rw [h]));have dX := And.intro dX (And.intro @e1 (And.intro @h6 @Int.toNat_natCast));(repeat refine eV ?_);refine cgF rfl rfl ⟨rfl, _, rfl⟩ (by omega) (by first | exact f6 | exact f9) (iw (gi D w) 0 ((al : Int) - 1)) ?_;rintro _ rfl
       repeat (apply bz; (focus exact rfl); (focus (simp (disch := first | omega | (intros; contradiction)) only [ac, bl, pZ, simprocAttr, ap, bc, b9, bg, ay, if_pos, b6, bq, ba, a8, dw, dx, cq , f6, f9, e1, h6, Int.toNat_natCast]; exact rfl)))
       have dX := And.intro dX (And.intro @e1 (And.intro @h6 @h7));(repeat refine eV ?_);have dK := And.intro @e1 (And.intro @h6 @h7);refine aa (hK _ (ax [1, 2, 3, 10, 11, 12, 30, 31, 32, 37, 38, 39, 68] ?_));clear hK K;refine dI ?_ ?_<;>intro hb
       ·cases hb
       ·refine af ?_;show DW _ _ _ _ _;refine dR fun K hK => ?_;(repeat refine eV ?_);have dK := And.intro @bt @hy;refine aa (hK _ ?_);clear hK K;show ∃ x, _ ∧ _ ∧ Weak _ _;refine ⟨k + 1, ?_, ?_, aq [1, 2, 3, 10, 11, 12, 30, 31, 32, 37, 38, 39]⟩
        ·omega
        ·omega
      ·have dX := And.intro dX (And.intro @e1 @h6);(repeat refine eV ?_);have dX := And.intro dX (And.intro @e1 @h6);refine csF ?_;(repeat refine eV ?_);have dX := And.intro dX (And.intro @e1 @h6);(repeat refine eV ?_);have dK := And.intro @e1 @h6;refine aa (hK _ (ax [1, 2, 3, 10, 11, 12, 30, 31, 32, 37, 38, 39, 68] ?_));clear hK K;refine dI ?_ ?_<;>intro hb
       ·cases hb
       ·refine af ?_;show DW _ _ _ _ _;refine dR fun K hK => ?_;(repeat refine eV ?_);have dK := And.intro @bt @hy;refine aa (hK _ ?_);clear hK K;show ∃ x, _ ∧ _ ∧ Weak _ _;refine ⟨k + 1, ?_, ?_, aq [1, 2, 3, 10, 11, 12, 30, 31, 32, 37, 38, 39]⟩
        ·omega
        ·omega
   ·have hk2 : k = S.length := by
     have : ¬ k < S.length := by simpa using hb
     omega
    rw [hk2, hcv1];refine ao ?_;refine bb [1, 2, 3, 12, 30, 31, 32] (by simp only [ac, pZ, simprocAttr]; exact rfl) ?_;refine ab (dR fun K hK => ?_);(repeat refine eV ?_);refine aa (hK _ (wK [1, 2, 3, 30, 31, 32, 71] ?_));clear hK K;refine dI ?_ ?_<;>intro hb
    ·cases hb
    ·refine af ?_;show DW _ _ _ _ _;refine dR fun K hK => ?_;(repeat refine eV ?_);have dK := @bt;refine aa (hK _ ?_);clear hK K;show ∃ x, _ ∧ _ ∧ Weak _ _;refine ⟨v + 1, ?_, ?_, aq [1, 2, 3, 30, 31, 32]⟩
     ·omega
     ·omega
  ·refine ao ?_;refine bb [] (by simp only [ac, pZ, simprocAttr]; exact rfl) ?_;refine ab (dR fun K hK => ?_);(repeat refine eV ?_);refine aa (hK _ (wK [8, 9] ?_));clear hK K;exact ak (an Tryz.results23 (.two (.plain _ _ rfl) (.plain _ _ rfl)) (by decide) rfl)
noncomputable def yz (N : Net) (S : List Int) (k : Nat) : List Int := (List.range k).map fun v => nrs (bo N v) S S.length
theorem Ly (N : Net) (S : List Int) (k : Nat) : yz N S (k + 1) = yz N S k ++ [nrs (bo N k) S S.length] := by simp [yz, List.range_succ]
theorem yx (N : Net) (S : List Int) (k : Nat) : (yz N S k).length = k := by simp [yz]
theorem R5 {N : Net} {S : List Int} {k v : Nat} (h : v < k) : gi (yz N S k) v = nrs (bo N v) S S.length := by
 rw [bm (by rw [yx]; exact h)]; simp [yz]
def nearestSt11 : Nat → Stat
 | 0 => ⟨[8], [], [], [29], [], []⟩
 | 1 => ⟨[11], [], [], [30], [], []⟩
 | 2 => ⟨[29, 30], [], [], [31], [], []⟩
 | 3 => ⟨[31], [], [], [32], [], []⟩
 | 4 => ⟨[32], [], [], [33], [], []⟩
 | 5 => ⟨[33], [], [], [34], [], []⟩
 | 6 => ⟨[9, 34], [], [], [35], [], []⟩
 | 7 => ⟨[35, 34], [], [], [36], [], []⟩
 | 8 => ⟨[36, 34], [], [], [37], [], []⟩
 | 9 => ⟨[8, 37], [], [], [38], [], []⟩
 | 10 => ⟨[11, 37], [], [], [39], [], []⟩
 | 11 => ⟨[38, 39, 37], [], [], [40], [], []⟩
 | 12 => ⟨[40, 37], [], [], [41], [], []⟩
 | 13 => ⟨[8, 37], [], [], [42], [], []⟩
 | 14 => ⟨[9, 37], [], [], [43], [], []⟩
 | 15 => ⟨[42, 43, 37], [], [], [44], [], []⟩
 | 16 => ⟨[44, 37], [], [], [45], [], []⟩
 | 17 => ⟨[41, 45, 37], [], [], [46], [], []⟩
 | 18 => ⟨[37, 46, 34], [], [], [47], [], []⟩
 | 19 => ⟨[34, 47], [], [], [48], [], []⟩
 | _ => ⟨[], [], [], [], [], []⟩
theorem Gx (f : NF) (N : Net) (o : Bool) (t : TypeId) (S : List Int) (hg : bj N = true) (hr : js S 0 ((N.ends.length : Int) - 1) = true) (hl : S.length ≤ 1000000) (hS : ∀ x ∈ S, 0 ≤ x ∧ x < N.ends.length) : DCalls Tryz.prog 24 [.agg (bi f N), .c (.sl o t 1 (S.map iC))] (fun r => r = [.own false [.sl true 3 1 ((yz N S N.ends.length).map iC)], .c (.p (.bool true))]) := by
 obtain ⟨hs, hn, hids, hdg⟩ := cp hg;have hal : (D3 N).length = N.ends.length := nf _ _;have hS0 : ∀ j, j < S.length → 0 ≤ gi S j := fun j hj => (hS (gi S j) (by rw [bm hj]; exact List.getElem_mem hj)).1;refine am Tryz.func24 rfl (by rw [Tryz.ntmps24]; simp) fun w0 => ?_;rw [Tryz.ntmps24];have dX := og;simp only [b4, bd, Arg.av, bi, b7, ints, ends];refine ab (dR fun K hK => ?_);(repeat refine eV ?_);refine aa (hK _ (wK [1, 2] ?_));clear hK K;refine ab ?_;refine ab (dR fun K hK => ?_);(repeat refine eV ?_);refine cL rfl ⟨rfl, _, rfl⟩ (by omega) (by first | exact Fk) (ny ⟨false, f.t1, f.o2, f.t2, false, f.t3, false, f.t4⟩ N o t S (by omega) (by omega)) ?_;rintro _ rfl;(repeat refine eV ?_);have dK := And.intro @hg @hr;refine aa (hK _ (ax [1, 2, 15] ?_));clear hK K;refine dI ?_ ?_<;>intro hb
 ·cases hb
 ·refine af ?_;show DW _ _ _ _ _;refine ab (dR fun K hK => ?_);(repeat refine eV ?_);refine aa (hK _ (wK [1, 2, 6] ?_));clear hK K;refine ab ?_;refine ab (dR fun K hK => ?_);(repeat refine eV ?_);refine cL rfl ⟨rfl, _, rfl⟩ (by omega) (by first | exact Pd) (j7 ⟨false, f.t1, f.o2, f.t2, false, f.t3, false, f.t4⟩ N hg) ?_;rintro _ rfl;(repeat refine eV ?_);have dK := @hal;refine aa (hK _ (ax [1, 6, 17, 18, 19] ?_));clear hK K;refine mh 17 [1, 6, 17, 18, 19] rfl rfl (by simp only [ac, pZ, simprocAttr, sj, qc, jf, je, fw]; exact rfl) ?_;refine ae ?_;refine ei 6 3 1 (by decide) (by simp only [ac, pZ, simprocAttr]) [1, 6, 17, 18, 19] (by simp only [ac, pZ, simprocAttr]; exact rfl) ?_;refine au (X := Nat) (fun v => v ≤ N.ends.length) (fun v => [(19, .c (.p (.int .i64 v)))]) (fun v => [((6, 0), ⟨none, [.sl true 3 1 ((yz N S v).map iC)]⟩)]) (fun v => N.ends.length - v) 0 (Nat.zero_le _) (by first | rfl | (simp only [ac, pZ, simprocAttr, Int.natCast_zero] <;> rfl)) ?_;rintro v hv;intro E hE;simp only [ac, pZ, simprocAttr] at hE;subst hE;have hnl := yx N S v;refine ab (dR fun K hK => ?_);(repeat refine eV ?_);refine aa (hK _ (wK [1, 6, 17, 18, 19, 20] ?_));clear hK K;refine ab (dI (fun hb => ?_) (fun hb => ?_))
  ·have hv1 : v < N.ends.length := by simpa using hb
   have hlg : lg (D3 N) v = bo N v := Ii hv1;have hdl : (bo N v).length = N.ends.length := (c9 hs hv1).len;have hls := Ly N S v;have hinv := C4 (far := bo N v) hS0;obtain ⟨D, hD⟩ : ∃ D, D = bo N v := ⟨_, rfl⟩;rw [← hD] at hlg hdl hls hinv;refine af ?_;show DW _ _ _ _ _;refine ab (ae ?_);have dX := And.intro dX (@hlg);refine ab (dR fun K hK => ?_);(repeat refine eV ?_);have dK := @hlg;refine aa (hK _ (ax [1, 6, 8, 17, 18, 19] ?_));clear hK K;refine ab (dR fun K hK => ?_);(repeat refine eV ?_);refine aa (hK _ (wK [1, 6, 8, 9, 17, 18, 19] ?_));clear hK K;refine ab ?_;refine ab (dR fun K hK => ?_);(repeat refine eV ?_);refine aa (hK _ (wK [1, 6, 8, 9, 17, 18, 19, 23, 24, 25] ?_));clear hK K;refine ae ?_;refine au (X := Nat) (fun k => k ≤ S.length) (fun k => [(9, .c (.p (.int .i64 (nrs D S k)))), (25, .c (.p (.int .i64 k)))]) (fun k => []) (fun k => S.length - k) 0 (Nat.zero_le _) (by first | rfl | (simp only [ac, pZ, simprocAttr, Int.natCast_zero] <;> rfl)) ?_;rintro k hk;intro E hE;simp only [ac, pZ, simprocAttr] at hE;subst hE;refine ab (dR fun K hK => ?_);(repeat refine eV ?_);refine aa (hK _ (wK [1, 6, 8, 9, 17, 18, 19, 23, 24, 25, 26] ?_));clear hK K;refine ab (dI (fun hb => ?_) (fun hb => ?_))
   ·have hk1 : k < S.length := by simpa using hb
    obtain ⟨w, hw, hwl⟩ : ∃ w : Nat, gi S k = w ∧ w < N.ends.length := by
     have h := hS (gi S k) (by rw [bm hk1]; exact List.getElem_mem hk1);exact ⟨(gi S k).toNat, by omega, by omega⟩
    have hsucc : nrs D S (k + 1) = if 0 ≤ gi D w ∧ (nrs D S k < 0 ∨ gi D w < gi D (nrs D S k).toNat) then (w : Int) else nrs D S k := by rw [nrs, hw, Int.toNat_natCast]
    have hbn : nrs D S k < 0 ∨ ∃ b : Nat, nrs D S k = b ∧ b < N.ends.length := by
     rcases hinv k hk with ⟨g1, -⟩ | ⟨j, g1, g2, -⟩
     ·exact .inl (by omega)
     ·have g3 := hS (gi S j) (by rw [bm (by omega)]; exact List.getElem_mem _);exact .inr ⟨(gi S j).toNat, by omega, by omega⟩
    obtain ⟨B, hB⟩ : ∃ B, B = nrs D S k := ⟨_, rfl⟩;rw [← hB] at hsucc hbn ⊢;refine af ?_;show DW _ _ _ _ _;refine ab (ae ?_);have dX := And.intro dX (@hw);refine ab (dR fun K hK => ?_);(repeat refine eV ?_);have dK := @hw;refine aa (hK _ (ax [1, 6, 8, 9, 11, 17, 18, 19, 23, 24, 25] ?_));clear hK K
    by_cases c1 : 0 ≤ gi D w
    ·have d1 : decide (gi D w ≥ 0) = true := decide_eq_true c1
     rcases hbn with c2 | ⟨b, hbe, hbl⟩
     ·have d2 : decide (B < 0) = true := decide_eq_true c2;have hy : nrs D S (k + 1) = w := by rw [hsucc, if_pos ⟨c1, .inl c2⟩]
      have dX := And.intro dX (And.intro @nearestSt11.eq_def (And.intro @Int.toNat_natCast (And.intro @d1 @d2)));refine ab (fk nearestSt11 (fun j r => True) fun K hK => ?_);(repeat refine dV ?_);have dK := And.intro @d1 @d2;refine br (hK _ (ax [1, 6, 8, 9, 11, 17, 18, 19, 23, 24, 25, 48] ?_));clear hK K;refine dI ?_ ?_<;>intro hb
      ·refine dR fun K hK => ?_;(repeat refine eV ?_);refine aa (hK _ (wK [1, 6, 8, 9, 17, 18, 19, 23, 24, 25] ?_));clear hK K;refine dR fun K hK => ?_;(repeat refine eV ?_);have dK := And.intro @bt @hy;refine aa (hK _ ?_);clear hK K;show ∃ x, _ ∧ _ ∧ Weak _ _;refine ⟨k + 1, ?_, ?_, aq [1, 6, 8, 9, 17, 18, 19, 23, 24, 25]⟩
       ·omega
       ·omega
      ·cases hb
     ·subst hbe;have d2 : decide ((b : Int) < 0) = false := decide_eq_false (by omega);rw [Int.toNat_natCast] at hsucc
      by_cases c3 : gi D w < gi D b
      ·have d3 : decide (gi D w < gi D b) = true := decide_eq_true c3;have hy : nrs D S (k + 1) = w := by rw [hsucc, if_pos ⟨c1, .inr c3⟩]
       have dX := And.intro dX (And.intro @nearestSt11.eq_def (And.intro @Int.toNat_natCast (And.intro @d1 (And.intro @d2 @d3))));refine ab (fk nearestSt11 (fun j r => True) fun K hK => ?_);(repeat refine dV ?_);have dK := And.intro @d1 (And.intro @d2 @d3);refine br (hK _ (ax [1, 6, 8, 9, 11, 17, 18, 19, 23, 24, 25, 48] ?_));clear hK K;refine dI ?_ ?_<;>intro hb
       ·refine dR fun K hK => ?_;(repeat refine eV ?_);refine aa (hK _ (wK [1, 6, 8, 9, 17, 18, 19, 23, 24, 25] ?_));clear hK K;refine dR fun K hK => ?_;(repeat refine eV ?_);have dK := And.intro @bt @hy;refine aa (hK _ ?_);clear hK K;show ∃ x, _ ∧ _ ∧ Weak _ _;refine ⟨k + 1, ?_, ?_, aq [1, 6, 8, 9, 17, 18, 19, 23, 24, 25]⟩
        ·omega
        ·omega
       ·cases hb
      ·have d3 : decide (gi D w < gi D b) = false := decide_eq_false c3;have hy : nrs D S (k + 1) = b := by rw [hsucc, if_neg (fun h => by rcases h.2 with h | h; omega; exact c3 h)]
       have dX := And.intro dX (And.intro @nearestSt11.eq_def (And.intro @Int.toNat_natCast (And.intro @d1 (And.intro @d2 @d3))));refine ab (fk nearestSt11 (fun j r => True) fun K hK => ?_);(repeat refine dV ?_);have dK := And.intro @d1 (And.intro @d2 @d3);refine br (hK _ (ax [1, 6, 8, 9, 11, 17, 18, 19, 23, 24, 25, 48] ?_));clear hK K;refine dI ?_ ?_<;>intro hb
       ·cases hb
       ·refine af ?_;show DW _ _ _ _ _;refine dR fun K hK => ?_;(repeat refine eV ?_);have dK := And.intro @bt @hy;refine aa (hK _ ?_);clear hK K;show ∃ x, _ ∧ _ ∧ Weak _ _;refine ⟨k + 1, ?_, ?_, aq [1, 6, 8, 9, 17, 18, 19, 23, 24, 25]⟩
        ·omega
        ·omega
    ·have d1 : decide (gi D w ≥ 0) = false := decide_eq_false c1;have hy : nrs D S (k + 1) = B := by rw [hsucc, if_neg (fun h => c1 h.1)]
     have dX := And.intro dX (And.intro @nearestSt11.eq_def (And.intro @Int.toNat_natCast @d1));refine ab (fk nearestSt11 (fun j r => True) fun K hK => ?_);(repeat refine dV ?_);have dK := @d1;refine br (hK _ (ax [1, 6, 8, 9, 11, 17, 18, 19, 23, 24, 25, 48] ?_));clear hK K;refine dI ?_ ?_<;>intro hb
     ·cases hb
     ·refine af ?_;show DW _ _ _ _ _;refine dR fun K hK => ?_;(repeat refine eV ?_);have dK := And.intro @bt @hy;refine aa (hK _ ?_);clear hK K;show ∃ x, _ ∧ _ ∧ Weak _ _;refine ⟨k + 1, ?_, ?_, aq [1, 6, 8, 9, 17, 18, 19, 23, 24, 25]⟩
      ·omega
      ·omega
   ·have hk2 : k = S.length := by
     have : ¬ k < S.length := by simpa using hb
     omega
    rw [hk2];refine ao ?_;refine bb [1, 6, 9, 17, 18, 19] (by simp only [ac, pZ, simprocAttr]; exact rfl) ?_;refine dR fun K hK => ?_;(repeat refine eV ?_);have dK := And.intro @ef (Eq.symm hls);refine aa (hK _ (ax [1, 6, 17, 18, 19] ?_));clear hK K;refine dR fun K hK => ?_;(repeat refine eV ?_);have dK := @bt;refine aa (hK _ ?_);clear hK K;show ∃ x, _ ∧ _ ∧ Weak _ _;refine ⟨v + 1, ?_, ?_, aq [1, 6, 17, 18, 19]⟩
    ·omega
    ·omega
  ·have hv2 : v = N.ends.length := by
    have : ¬ v < N.ends.length := by simpa using hb
    omega
   refine ao ?_;refine bb [6] (by simp only [ac, pZ, simprocAttr]; exact rfl) ?_;refine ab (dR fun K hK => ?_);(repeat refine eV ?_);refine aa (hK _ (wK [4, 5] ?_));clear hK K;exact ak (an Tryz.results24 (.two (.own _ _ _ _ rfl rfl (own1 (az _ _))) (.plain _ _ rfl)) (by decide) (by rw [hv2]))
end
end Go.Proofs.YtolpiolnhgpjjaaGreat

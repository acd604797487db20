/- Parts of the proof. -/
import Derived.Test.YtfemnfpbdbbacaaGreatCJn25
import Derived.Test.YtfemnfpbdbbacaaGreatCCb4
import Derived.Test.YtfemnfpbdbbacaaGreatCJn46
import Derived.Test.YtfemnfpbdbbacaaGreatCJn13
import Derived.Test.YtfemnfpbdbbacaaGreatCJn6
import Derived.Test.YtfemnfpbdbbacaaGreatCDix
import Derived.Test.YtfemnfpbdbbacaaGreatCJn40
import Derived.Test.YtfemnfpbdbbacaaGreatCJn31
import Derived.Test.YtfemnfpbdbbacaaGreatCJn8
import Derived.Test.YtfemnfpbdbbacaaGreatCJn11
import Derived.Test.YtfemnfpbdbbacaaGreatCJn27
import Derived.Test.YtfemnfpbdbbacaaGreatCJn29
import Derived.Test.YtfemnfpbdbbacaaGreatCJn43
import Derived.Test.YtfemnfpbdbbacaaGreatCJn21
import Derived.Test.YtfemnfpbdbbacaaGreatCDso
import Derived.Test.YtfemnfpbdbbacaaGreatCIm4
import Derived.Test.YtfemnfpbdbbacaaGreatCJn30
import Derived.Test.YtfemnfpbdbbacaaGreatCDt
set_option linter.unusedSimpArgs false
set_option linter.unusedVariables false
namespace Go.Proofs.YtfemnfpbdbbacaaGreat
section
open Go Go.RowKit
theorem Ml (k : Nat → List Int) : ∀ n c, c < cnB k n → ∃ u, u < n ∧ nm k u = c
 | 0, c, h => by rw [B1] at h; omega
 | n + 1, c, h => by
  by_cases h1 : c < cnB k n
  ·obtain ⟨u, hu, he⟩ := Ml k n c h1;exact ⟨u, by omega, he⟩
  ·rw [di] at h
   by_cases h2 : it k n = true
   ·rw [if_pos h2] at h;exact ⟨n, by omega, by rw [Aw h2]; omega⟩
   ·rw [if_neg h2] at h; omega
def fbL (cls : List Int) (n c : Nat) : List Int := (du n).filter fun v => gi cls v.toNat == (c : Int)
theorem Na {cls : List Int} {n c : Nat} {x : Int} : x ∈ fbL cls n c ↔ 0 ≤ x ∧ x < n ∧ gi cls x.toNat = c := by
 unfold fbL;rw [List.mem_filter, mi, beq_iff_eq, and_assoc]
theorem Td (cls : List Int) (n c : Nat) : fbL cls (n + 1) c = if gi cls n = c then fbL cls n c ++ [(n : Int)] else fbL cls n c := by
 unfold fbL;rw [r5, List.filter_append]
 by_cases h : gi cls n = c
 ·rw [if_pos h];have : (gi cls ((n : Int)).toNat == (c : Int)) = true := by rw [Int.toNat_natCast]; simpa using h
  simp only [List.filter_cons, this, if_pos, List.filter_nil]
 ·rw [if_neg h];have : (gi cls ((n : Int)).toNat == (c : Int)) = false := by rw [Int.toNat_natCast]; simpa using h
  simp only [List.filter_cons, this, List.filter_nil];simp
def rpF (cls : List Int) (n c : Nat) : Nat := (gi (fbL cls n c) 0).toNat
theorem mm {cls : List Int} {n c : Nat} (h : ∃ u, u < n ∧ gi cls u = (c : Int)) : 0 < (fbL cls n c).length ∧ rpF cls n c < n ∧ gi cls (rpF cls n c) = c ∧ gi (fbL cls n c) 0 = (rpF cls n c : Nat) := by
 obtain ⟨u, hu, he⟩ := h;have hm : (u : Int) ∈ fbL cls n c := Na.2 ⟨by omega, by omega, by rw [Int.toNat_natCast]; exact he⟩;have hl : 0 < (fbL cls n c).length := List.length_pos_of_mem hm;have h0 : gi (fbL cls n c) 0 ∈ fbL cls n c := by rw [bn hl]; exact List.getElem_mem hl
 obtain ⟨h1, h2, h3⟩ := Na.1 h0;refine ⟨hl, ?_, h3, ?_⟩
 ·unfold rpF; omega
 ·unfold rpF; omega
def qsE (N : Net) (cls : List Int) (c : Nat) : List (Int × Int) := (gl N.ends (rpF cls N.ends.length c)).map fun e => (gi cls e.1.toNat, e.2)
def quN (N : Net) (cls : List Int) (K : Nat) : Net := ⟨(List.range K).map (qsE N cls), [], (List.range K).map fun c => gi N.inputs (rpF cls N.ends.length c)⟩
section
variable {N : Net} {cls : List Int} {K : Nat}
theorem y5 : (quN N cls K).ends.length = K := by simp [quN]
theorem v7 {c : Nat} (h : c < K) : gl (quN N cls K).ends c = qsE N cls c := by simp [quN, gl, h]
theorem Rr {c : Nat} (h : c < K) : gi (quN N cls K).inputs c = gi N.inputs (rpF cls N.ends.length c) := by simp [quN, gi, h]
theorem y6 (c : Nat) : (qsE N cls c).length = (gl N.ends (rpF cls N.ends.length c)).length := by simp [qsE]
theorem J1 {c i : Nat} (h : i < (gl N.ends (rpF cls N.ends.length c)).length) : gp (qsE N cls c) i = (gi cls (gp (gl N.ends (rpF cls N.ends.length c)) i).1.toNat, (gp (gl N.ends (rpF cls N.ends.length c)) i).2) := by
 simp [qsE, gp, h]
end
def pmV (A B : Net) (m : List Int) (v : Nat) : Bool :=
 !decide ((gl A.ends v).length = (gl B.ends (gi m v).toNat).length) || !decide (gi A.inputs v = gi B.inputs (gi m v).toNat) ||
 Ce (gl A.ends v).length fun i => !decide (gp (gl B.ends (gi m v).toNat) i = (gi m (gp (gl A.ends v) i).1.toNat, (gp (gl A.ends v) i).2))
def pmB (A B : Net) (m : List Int) : Bool := decide (m.length = A.ends.length) && (m.all fun x => inB x 0 ((B.ends.length : Int) - 1)) && !(Ce A.ends.length (pmV A B m))
theorem Rw {A B : Net} {m : List Int} {v : Nat} : pmV A B m v = false ↔ (gl A.ends v).length = (gl B.ends (gi m v).toNat).length ∧ gi A.inputs v = gi B.inputs (gi m v).toNat ∧
 ∀ i, i < (gl A.ends v).length → gp (gl B.ends (gi m v).toNat) i = (gi m (gp (gl A.ends v) i).1.toNat, (gp (gl A.ends v) i).2) := by
 unfold pmV;rw [Bool.or_eq_false_iff, Bool.or_eq_false_iff];constructor
 ·rintro ⟨⟨h1, h2⟩, h3⟩;refine ⟨by simpa using h1, by simpa using h2, fun i hi => ?_⟩;apply Classical.byContradiction;intro h;have := (Cc (b := fun i => !decide (gp (gl B.ends (gi m v).toNat) i = (gi m (gp (gl A.ends v) i).1.toNat, (gp (gl A.ends v) i).2)))).2 ⟨i, hi, by simp [h]⟩;rw [h3] at this; cases this
 ·rintro ⟨h1, h2, h3⟩;refine ⟨⟨by simp [h1], by simp [h2]⟩, Cd fun i hi => by simp [h3 i hi]⟩
section
variable {N : Net} {d : Nat}
theorem qv (hd : IsSd N d) (hr : Rng N) {c : Nat} (h : c < cd N d) : ∃ u, u < N.ends.length ∧ gi (cu N d) u = (c : Int) := by
 obtain ⟨u, hu, he⟩ := Ml (vk N d) N.ends.length c h;exact ⟨u, hu, by rw [tn, uw hu, he]⟩
theorem Ei (hd : IsSd N d) (hr : Rng N) {u v : Nat} (hu : u < N.ends.length) (hv : v < N.ends.length) (he : gi (cu N d) u = gi (cu N d) v) :
 (gl N.ends u).length = (gl N.ends v).length ∧ gi N.inputs u = gi N.inputs v ∧ ∀ i, i < (gl N.ends u).length → (gp (gl N.ends u) i).2 = (gp (gl N.ends v) i).2 ∧ gi (cu N d) (gp (gl N.ends u) i).1.toNat = gi (cu N d) (gp (gl N.ends v) i).1.toNat :=
 gf.1 (hd.all hr 1 u v hu hv ((mg hu hv).1 he))
theorem U9 (hd : IsSd N d) (hr : Rng N) : pmB N (quN N (cu N d) (cd N d)) (cu N d) = true := by
 unfold pmB;have h1 : decide ((cu N d).length = N.ends.length) = true := decide_eq_true (ei N d)
 have h2 : ((cu N d).all fun x => inB x 0 (((quN N (cu N d) (cd N d)).ends.length : Int) - 1)) = true := by
  rw [List.all_eq_true];intro x hx;obtain ⟨i, hi, rfl⟩ := List.getElem_of_mem hx;have hi' : i < N.ends.length := by rw [← ei N d]; exact hi
  have := kc (t := d) hi';rw [bn hi] at this;rw [y5];exact df.2 (by omega)
 have h3 : Ce N.ends.length (pmV N (quN N (cu N d) (cd N d)) (cu N d)) = false := Cd fun v hv => by
  obtain ⟨c0, c1⟩ := kc (N := N) (t := d) hv;obtain ⟨c, hc⟩ := Int.eq_ofNat_of_zero_le c0;have hcK : c < cd N d := by omega
  obtain ⟨-, r1, r2, -⟩ := mm (qv hd hr hcK);obtain ⟨a1, a2, a3⟩ := Ei hd hr hv r1 (by rw [hc, r2]);rw [Rw, hc, Int.toNat_natCast, v7 hcK, Rr hcK, y6];refine ⟨a1, a2, fun i hi => ?_⟩;obtain ⟨a4, a5⟩ := a3 i hi;rw [J1 (by omega), a4, a5]
 rw [h1, h2, h3]; rfl
theorem Rq (hd : IsSd N d) (hg : bb N = true) : bb (quN N (cu N d) (cd N d)) = true := by
 have hr := jb hg;obtain ⟨h1, h2, h3, h4, h5⟩ := dl.1 hg;obtain ⟨h6, h7⟩ := jc.1 h5;have h8 := df.1 h1;have hK1 := tm N d;have hK2 := vl hr.1 d;have hl := y5 (N := N) (cls := cu N d) (K := cd N d);refine dl.2 ⟨df.2 (by rw [hl]; omega), rfl, by rw [hl]; simp [quN], ?_, jc.2 ⟨fun k hk => ?_, fun a i ha hi => ?_⟩⟩
 ·rw [pz];intro k hk;have hk' : k < cd N d := by simpa [quN] using hk
  obtain ⟨-, r1, -, -⟩ := mm (qv hd hr hk');rw [Rr hk'];exact pz.1 h4 _ (by omega)
 ·rw [hl] at hk;obtain ⟨-, r1, -, -⟩ := mm (qv hd hr hk);show (gl (quN N (cu N d) (cd N d)).ends k).length ≤ 6;rw [v7 hk, y6];exact h6 _ r1
 ·rw [hl] at ha;obtain ⟨-, r1, r2, -⟩ := mm (qv hd hr ha)
  have hi' : i < dg N.ends (rpF (cu N d) N.ends.length a) := by
   have : i < (gl (quN N (cu N d) (cd N d)).ends a).length := hi;rw [v7 ha, y6] at this;exact this
  obtain ⟨b, j, e1, hb, hj, e2⟩ := h7 _ i r1 hi';obtain ⟨c0, c1⟩ := kc (N := N) (t := d) hb;obtain ⟨c, hc⟩ := Int.eq_ofNat_of_zero_le c0;have hcK : c < cd N d := by omega
  obtain ⟨-, s1, s2, -⟩ := mm (qv hd hr hcK);obtain ⟨a1, a2, a3⟩ := Ei hd hr hb s1 (by rw [hc, s2]);have a3 := a3 j hj;have e1' : gp (gl N.ends (rpF (cu N d) N.ends.length a)) i = ((b : Int), (j : Int)) := e1;have e2' : gp (gl N.ends b) j = (((rpF (cu N d) N.ends.length a : Nat) : Int), (i : Int)) := e2;rw [e2', Int.toNat_natCast, r2] at a3;have hj2 : j < (gl N.ends (rpF (cu N d) N.ends.length c)).length := by rw [← a1]; exact hj
  refine ⟨c, j, ?_, by rw [hl]; exact hcK, ?_, ?_⟩
  ·show gp (gl (quN N (cu N d) (cd N d)).ends a) i = _;rw [v7 ha, J1 hi', e1', Int.toNat_natCast, hc]
  ·show j < (gl (quN N (cu N d) (cd N d)).ends c).length;rw [v7 hcK, y6]; exact hj2
  ·show gp (gl (quN N (cu N d) (cd N d)).ends c) j = _;rw [v7 hcK, J1 hj2, ← a3.1, ← a3.2]
end
section
variable {N : Net}
theorem Tq (hg : bb N = true) : ∀ t v, v < N.ends.length → vk (fg N) t v = vk (fg N) t (v + N.ends.length) := by
 have hs := (jc.1 (dl.1 hg).2.2.2.2).2;have hin := lw hg
 have hlen : ∀ v, v < N.ends.length → (gl (fg N).ends v).length = (gl (fg N).ends (v + N.ends.length)).length := fun v hv => by
  show dg (ng N.ends) v = dg (ng N.ends) (v + N.ends.length);rw [uv hv, zg]
 have hinp : ∀ v, v < N.ends.length → gi (fg N).inputs v = gi (fg N).inputs (v + N.ends.length) := fun v hv => by
  show gi (N.inputs ++ N.inputs) v = gi (N.inputs ++ N.inputs) (v + N.ends.length);have h1 : v < (N.inputs ++ N.inputs).length := by rw [List.length_append]; omega
  have h2 : v + N.ends.length < (N.inputs ++ N.inputs).length := by rw [List.length_append]; omega
  rw [bn h1, bn h2, List.getElem_append_left (by omega), List.getElem_append_right (by omega)]
  congr 1; omega
 intro t
 induction t with
 | zero => exact fun v hv => qb.2 ⟨hlen v hv, hinp v hv⟩
 | succ t ih =>
  intro v hv;refine gf.2 ⟨hlen v hv, hinp v hv, fun i hi => ?_⟩
  have hi' : i < dg N.ends v := by
   have : i < dg (ng N.ends) v := hi;rw [uv hv] at this;exact this
  obtain ⟨b, j, e1, hb, hj, -⟩ := hs v i hv hi'
  have g1 : gp (gl (fg N).ends v) i = (((b + N.ends.length : Nat) : Int), (j : Int)) := by
   show pt (ng N.ends) v i = _;rw [Fv hv hi', e1];simp
  have g2 : gp (gl (fg N).ends (v + N.ends.length)) i = ((b : Int), (j : Int)) := by
   show pt (ng N.ends) (v + N.ends.length) i = _;rw [Fu, e1]
  rw [g1, g2];refine ⟨rfl, ?_⟩;show gi (cu (fg N) t) ((b + N.ends.length : Nat) : Int).toNat = gi (cu (fg N) t) (b : Int).toNat;rw [Int.toNat_natCast, Int.toNat_natCast];have hl := pu N;exact ((mg (by omega) (by omega)).2 (ih b hb)).symm
theorem Zp {k : Nat → List Int} {n u v : Nat} (hu : u < v) (hv : v < n) (he : k u = k v) : cnB k n < n := by
 have h1 := di k v;have h2 : it k v ≠ true := fun h => f7.1 h u hu he;rw [if_neg h2] at h1;have h3 := F2 k v
 have h4 : ∀ m, cnB k (v + 1 + m) ≤ cnB k (v + 1) + m := by
  intro m
  induction m with
  | zero => exact Nat.le_refl _
  | succ m ih =>
   have := di k (v + 1 + m);have e : v + 1 + (m + 1) = v + 1 + m + 1 := by omega
   rw [e];split at this <;> omega
 have h5 := h4 (n - (v + 1));rw [show v + 1 + (n - (v + 1)) = n by omega] at h5;omega
theorem Is (hg : bb N = true) (t : Nat) : cd (fg N) t < (fg N).ends.length := by
 have hp := (jb hg).1;have hl := pu N;exact Zp (k := vk (fg N) t) (u := 0) (v := 0 + N.ends.length) (by omega) (by omega) (Tq hg t 0 hp)
end
end
section
open Go Go.RowKit
theorem xu (n : Nat) (hn : n ≤ 1048576) : DCalls Tryz.prog 24 [.c (.p (.int .i64 n))] (fun r => r = [.own false [.sl true 3 1 ((du n).map iC)]]) := ne fun w vs h1 h2 => by
 obtain ⟨u, rfl, g1⟩ := yh h1 h2;rw [I8 g1];exact (Ct n w hn).mono fun e w' ⟨g, he, hg, ho, hb⟩ => ⟨_, he, ho, hb⟩
end
section
theorem S3 {N : Net} (hg : bb N = true) (h : N.ids.length ≠ 0) : N.ids.length = N.ends.length := by
 have h1 := (dl.1 hg).2.1;unfold sr at h1;rw [Bool.and_eq_true, Bool.or_eq_true] at h1
 rcases h1.2 with h2 | h2
 ·exact absurd (by simpa using h2) h
 ·have h3 : (N.ids.length : Int) = N.ends.length := by simpa using h2
  omega
end
section
open Go Go.RowKit
def Z4 (r : Res) : Prop := ∃ N, r = [.agg (netZ N)] ∧ Tame N
end
end Go.Proofs.YtfemnfpbdbbacaaGreat

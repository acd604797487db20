/- Parts of the proof. -/
import Derived.Test.YtolpiolnhgpjjaaGreatCJn44
import Derived.Test.YtolpiolnhgpjjaaGreatCJn8
import Derived.Test.YtolpiolnhgpjjaaGreatCJn6
import Derived.Test.YtolpiolnhgpjjaaGreatCJn39
import Derived.Test.YtolpiolnhgpjjaaGreatCJn26
import Derived.Test.YtolpiolnhgpjjaaGreatCJn28
import Derived.Test.YtolpiolnhgpjjaaGreatCJn21
import Derived.Test.YtolpiolnhgpjjaaGreatCShelf
import Derived.Test.YtolpiolnhgpjjaaGreatCJn31
import Derived.Test.YtolpiolnhgpjjaaGreatCDt
import Derived.Test.YtolpiolnhgpjjaaGreatCMtr2
import Derived.Test.YtolpiolnhgpjjaaGreatCDix
import Derived.Test.YtolpiolnhgpjjaaGreatCJn15
import Derived.Test.YtolpiolnhgpjjaaGreatCJn33
import Derived.Test.YtolpiolnhgpjjaaGreatCPwq
import Derived.Test.YtolpiolnhgpjjaaGreatCDcu
import Derived.Test.YtolpiolnhgpjjaaGreatCJn17
import Derived.Test.YtolpiolnhgpjjaaGreatCNw1
import Derived.Test.YtolpiolnhgpjjaaGreatCNw3
import Derived.Test.YtolpiolnhgpjjaaGreatCJn29
import Derived.Test.YtolpiolnhgpjjaaGreatCSp2
import Derived.Test.YtolpiolnhgpjjaaGreatCDpg
import Derived.Test.YtolpiolnhgpjjaaGreatCDcv
import Derived.Test.YtolpiolnhgpjjaaGreatCJn43
import Derived.Test.YtolpiolnhgpjjaaGreatCIpm
import Derived.Test.YtolpiolnhgpjjaaGreatCJn24
import Derived.StillTailTactics
import Derived.Test.YtolpiolnhgpjjaaGreatCJn45
import Derived.Test.YtolpiolnhgpjjaaGreatCLwb
set_option linter.unusedSimpArgs false
set_option linter.unusedVariables false
namespace Go.Proofs.YtolpiolnhgpjjaaGreat
section
open Go Go.RowKit Go.Sort
theorem Wf {L : List Int} {n : Nat} (h : L.Pairwise (· < ·)) (hm : ∀ x ∈ L, 0 ≤ x ∧ x < (n : Int)) : la L 0 ((n : Int) - 1) = true := Q1 h fun x hx => by have := hm x hx; omega
end
section
open Go Go.RowKit
section
variable {N : Net}
theorem Jj {v : Nat} : cvP N v = true ↔ 0 ≤ gi (nw N) v ∨ 0 ≤ gi (nw N) (v + N.ends.length) := by
 unfold cvP;rw [Bool.or_eq_true, decide_eq_true_iff, decide_eq_true_iff]
theorem xm {p : Nat → Bool} {k v : Nat} (hv : v < k) (h : p v = true) : (v : Int) ∈ ep p k := by
 unfold ep;exact List.mem_map.2 ⟨v, List.mem_filter.2 ⟨List.mem_range.2 hv, h⟩, rfl⟩
theorem r9 {v : Nat} (hv : v < N.ends.length) : (v : Int) ∈ cvL N ↔ cvP N v = true := by
 constructor
 ·intro h;obtain ⟨w, hw, -, h2⟩ := tc h;have : v = w := by omega
  rw [this]; exact h2
 ·exact xm hv
theorem R0 : ∀ x ∈ cvL N, 0 ≤ x ∧ x < (N.ends.length : Int) := fun x hx => by
 obtain ⟨w, rfl, h1, -⟩ := tc hx;omega
theorem Am (p : Nat → Bool) (k : Nat) : (ep p k).Pairwise (· < ·) := by
 unfold ep;rw [List.pairwise_map];exact ((List.pairwise_lt_range (n := k)).filter _).imp fun h => Int.ofNat_lt.2 h
theorem Pk (hs : Sym N.ends) {v i w : Nat} (hv : v < N.ends.length) (hi : i < dg N.ends v) (he : (pt N.ends v i).1 = (w : Int)) : cvP N v = true ∨ cvP N w = true := by
 have hl := d7 (ess := N.ends);have hdv := ez hv
 have he2 : (pt (br N.ends) v i).1 = ((w + N.ends.length : Nat) : Int) := by
  rw [ir hv hi];show (pt N.ends v i).1 + _ = _;rw [he]; omega
 have hsv : sdD N.ends.length v = false := by unfold sdD; exact decide_eq_false (by omega)
 have hr := Gi (ess := br N.ends) (sd := sdD N.ends.length) (k := (br N.ends).length) (v := v) (by omega) hsv;have h := M8 hs.dbl (ik hs) (show v < (br N.ends).length by omega) (by rw [hdv]; exact hi) hsv he2 (b := rdM (br N.ends) (sdD N.ends.length) (br N.ends).length) (by rw [hdv] at hr; omega)
 rcases h with h | h
 ·exact .inl (Jj.2 (.inl h))
 ·exact .inr (Jj.2 (.inr h))
theorem Li (hs : Sym N.ends) : jz N (cvL N) = true := nx.2 fun j hj => by
 obtain ⟨k2, i, hk, hi, -, hq⟩ := Cz (List.getElem_mem hj);rw [← Ew hj] at hq;obtain ⟨w, p, e, hw, -, -⟩ := hs k2 i hk hi;have he : (gp (gl N.ends k2) i).1 = (w : Int) := congrArg Prod.fst e;rw [hq];unfold ncE;show (!decide (0 ≤ je (cvL N) ((k2 : Nat) : Int)) && !decide (0 ≤ je (cvL N) (gp (gl N.ends k2) i).1)) = false;rw [he]
 rcases Pk hs hk hi he with h | h
 ·have : decide (0 ≤ je (cvL N) ((k2 : Nat) : Int)) = true := by rw [decide_eq_true_iff, lm]; exact (r9 hk).2 h
  rw [this]; rfl
 ·have : decide (0 ≤ je (cvL N) ((w : Nat) : Int)) = true := by rw [decide_eq_true_iff, lm]; exact (r9 hw).2 h
  rw [this, Bool.not_true, Bool.and_false]
theorem Pf (hs : Sym N.ends) {S : List Int} (h : jz N S = true) {v i w : Nat} (hv : v < N.ends.length) (hi : i < dg N.ends v) (he : (pt N.ends v i).1 = (w : Int)) : (v : Int) ∈ S ∨ (w : Int) ∈ S := by
 obtain ⟨e, hm, hx⟩ := Rs hs hv hi;obtain ⟨j, hj, hje⟩ := List.getElem_of_mem hm;have h2 := nx.1 h j hj;rw [Ew hj, hje] at h2;unfold ncE at h2;have he2 : (gp (gl N.ends v) i).1 = (w : Int) := he
 have h3 : ∀ a b : Int, (!decide (0 ≤ je S a) && !decide (0 ≤ je S b)) = false → a ∈ S ∨ b ∈ S := fun a b hab => by
  rw [Bool.and_eq_false_iff] at hab
  rcases hab with g | g
  ·have g : decide (0 ≤ je S a) = true := by simpa using g
   exact .inl (lm.1 (of_decide_eq_true g))
  ·have g : decide (0 ≤ je S b) = true := by simpa using g
   exact .inr (lm.1 (of_decide_eq_true g))
 rcases hx with ⟨x1, x2⟩ | ⟨x1, x2⟩
 ·rw [x1, x2, he2] at h2; exact h3 _ _ h2
 ·rw [x1, x2, he2] at h2; exact (h3 _ _ h2).symm
theorem ne (p : Nat → Bool) : ∀ k, (ep p k).length = ct p k
 | 0 => rfl
 | k + 1 => by
  rw [ct, ← ne p k]
  cases h : p k with
  | true => rw [gg h, List.length_append]; rfl
  | false => rw [ld h]; rfl
theorem Lh (hs : Sym N.ends) {S : List Int} (hi : S.Pairwise (· < ·)) (hm : ∀ x ∈ S, 0 ≤ x ∧ x < (N.ends.length : Int)) (h : jz N S = true) : (cvL N).length ≤ 3 * S.length := by
 have hSp : S = ep (fun v => decide ((v : Int) ∈ S)) N.ends.length := by
  refine Ot hi (Am _ _) fun x => ?_;constructor
  ·intro hx;have h0 := hm x hx;obtain ⟨v, rfl⟩ := Int.eq_ofNat_of_zero_le h0.1;exact xm (by omega) (decide_eq_true hx)
  ·intro hx;obtain ⟨w, rfl, -, h2⟩ := tc hx;exact of_decide_eq_true h2
 have hc := U8 (ess := N.ends) (m := nw N) (K := fun v => decide ((v : Int) ∈ S)) hs (ta hs.dbl (ik hs) _) fun v i w hv hi he => by
  rcases Pf hs h hv hi he with g | g
  ·exact .inl (decide_eq_true g)
  ·exact .inr (decide_eq_true g)
 have h1 : S.length = ct (fun v => decide ((v : Int) ∈ S)) N.ends.length := by
  have := congrArg List.length hSp;rw [ne] at this;exact this
 have h2 : (cvL N).length = ct (cvP N) N.ends.length := ne _ _;have h3 : ct (cvP N) N.ends.length = ct (fun v => decide (0 ≤ gi (nw N) v) || decide (0 ≤ gi (nw N) (v + N.ends.length))) N.ends.length := rfl;rw [h1, h2, h3];exact hc
def mxd (ess : List (List (Int × Int))) : Nat → Nat := rdM ess fun _ => false
theorem rq (ess : List (List (Int × Int))) (k : Nat) : mxd ess (k + 1) = max (mxd ess k) (dg ess k) := by
 show rdM ess (fun _ => false) (k + 1) = _;rw [rdM, if_pos rfl]; rfl
theorem Sq {e : List (List (Int × Int))} : ∀ {k v : Nat}, v ≤ k → rdM e (sdD k) v = mxd e v
 | k, 0, _ => rfl
 | k, v + 1, hv => by
  rw [rdM, rq, if_pos (by unfold sdD; exact decide_eq_false (by omega)), Sq (by omega : v ≤ k)]
theorem M4 {e : List (List (Int × Int))} {k : Nat} : ∀ j, rdM e (sdD k) (k + j) = mxd e k
 | 0 => Sq (Nat.le_refl k)
 | j + 1 => by
  rw [show k + (j + 1) = (k + j) + 1 by omega, rdM, if_neg (by unfold sdD; rw [decide_eq_true (by omega)]; decide), M4 j]
theorem v8 {e : List (List (Int × Int))} : ∀ {v : Nat}, v ≤ e.length → mxd (br e) v = mxd e v
 | 0, _ => rfl
 | v + 1, hv => by rw [rq, rq, v8 (by omega : v ≤ e.length), ez (by omega)]
theorem Tu {e : List (List (Int × Int))} {v k : Nat} (h : v < k) : dg e v ≤ mxd e k := Gi (ess := e) (sd := fun _ => false) h rfl
theorem Ei {e : List (List (Int × Int))} : ∀ {j : Nat}, j ≤ e.length → mxd (br e) (e.length + j) = mxd e e.length
 | 0, _ => v8 (Nat.le_refl _)
 | j + 1, hj => by
  rw [show e.length + (j + 1) = (e.length + j) + 1 by omega, rq, Ei (by omega : j ≤ e.length), show e.length + j = j + e.length by omega, ey];exact Nat.max_eq_left (Tu (by omega))
theorem Sr (e : List (List (Int × Int))) : rdM (br (br e)) (sdD (br e).length) (br (br e)).length = rdM (br e) (sdD e.length) (br e).length := by
 have h1 := d7 (ess := e);have h2 := d7 (ess := br e);rw [h2, M4];rw [v8 (Nat.le_refl _)];rw [h1, Ei (Nat.le_refl _), M4, v8 (Nat.le_refl _)]
theorem Ph (hs : Sym N.ends) {v : Nat} (hv : v < N.ends.length) : cvP (dc N) v = cvP N v := by
 have hl := d7 (ess := N.ends)
 have hM : nw (dc N) = prM (br (br N.ends)) (sdD (br N.ends).length) (rdM (br N.ends) (sdD N.ends.length) (br N.ends).length) := by
  unfold nw;exact congrArg _ (Sr N.ends)
 have h1 := Fa hs (rdM (br N.ends) (sdD N.ends.length) (br N.ends).length) v (by omega);have h2 := E9 hs (rdM (br N.ends) (sdD N.ends.length) (br N.ends).length) (v + N.ends.length) (by omega);unfold yw at h1;rw [if_pos hv, ← hM] at h1;rw [← hM] at h2;unfold cvP;have hk : (dc N).ends.length = N.ends.length + N.ends.length := hl;rw [hk, show v + (N.ends.length + N.ends.length) = v + N.ends.length + N.ends.length by omega, h1, h2];rfl
theorem Pi (hs : Sym N.ends) {v : Nat} (hv : v < N.ends.length) : cvP (dc N) (v + N.ends.length) = cvP N v := by
 have hl := d7 (ess := N.ends)
 have hM : nw (dc N) = prM (br (br N.ends)) (sdD (br N.ends).length) (rdM (br N.ends) (sdD N.ends.length) (br N.ends).length) := by
  unfold nw;exact congrArg _ (Sr N.ends)
 have h1 := Fa hs (rdM (br N.ends) (sdD N.ends.length) (br N.ends).length) (v + N.ends.length) (by omega);have h2 := E9 hs (rdM (br N.ends) (sdD N.ends.length) (br N.ends).length) v (by omega);unfold yw at h1;rw [if_neg (by omega), ← hM] at h1;rw [← hM] at h2;unfold cvP;have hk : (dc N).ends.length = N.ends.length + N.ends.length := hl;rw [hk, h1, h2];rfl
theorem Jm (p q : Nat → Bool) (k : Nat) : ∀ j, (∀ v, v < k → p v = q v) → (∀ v, v < j → p (v + k) = q v) → ct p (k + j) = ct q k + ct q j
 | 0, h1, _ => by
  rw [Nat.add_zero]
  have : ∀ i, i ≤ k → ct p i = ct q i := fun i => by
   induction i with
   | zero => intro _; rfl
   | succ i ih => intro hi; rw [ct, ct, ih (by omega), h1 i (by omega)]
  rw [this k (Nat.le_refl k)]; rfl
 | j + 1, h1, h2 => by
  rw [show k + (j + 1) = (k + j) + 1 by omega, ct, Jm p q k j h1 fun v hv => h2 v (by omega), ct];have := h2 j (Nat.lt_succ_self j);rw [show k + j = j + k by omega, this];omega
theorem R1 (hs : Sym N.ends) : (cvL (dc N)).length = 2 * (cvL N).length := by
 have hk : (dc N).ends.length = N.ends.length + N.ends.length := d7;unfold cvL;rw [ne, ne, hk, Jm (cvP (dc N)) (cvP N) N.ends.length N.ends.length (fun v hv => Ph hs hv) fun v hv => Pi hs hv];omega
theorem U7 (hs : Sym N.ends) {v : Nat} (hv : v < N.ends.length) (h : (v : Int) ∈ cvL N) : (v : Int) ∈ cvL (dc N) ∧ ((v + N.ends.length : Nat) : Int) ∈ cvL (dc N) := by
 have hk : (dc N).ends.length = N.ends.length + N.ends.length := d7;have hp := (r9 hv).1 h;exact ⟨(r9 (N := dc N) (by omega)).2 (by rw [Ph hs hv]; exact hp), (r9 (N := dc N) (by omega)).2 (by rw [Pi hs hv]; exact hp)⟩
theorem Pj : (cvL N).length ≤ N.ends.length := rj _ _
end
theorem R2 (N : Net) (htm : Tame N) : ∃ (L : List Int) (ok : Bool), DCalls Tryz.prog 47 [.agg (bw NFz N)] (fun r => r = [.own false [.sl true 3 1 (L.map iC)], .c (.p (.bool ok))]) ∧ DCalls Tryz.prog 48 [.agg (bw NFz N)] (fun r => r = [.own false [.sl true 3 1 (L.map iC)], .c (.p (.bool ok))]) ∧ L.length ≤ 64 ∧
 (ok = true → bm N = true ∧ bm (dc N) = true ∧ L = cvL N) := by
 have hli := htm.ids;have hln := htm.len
 cases hg : bm N with
 | false => exact ⟨[], false, Lu NFz N (by omega) hg, Lt NFz N hg, by simp, fun h => by cases h⟩
 | true =>
  cases hd : bm (dc N) with
  | false => exact ⟨[], false, H9 NFz N hg hd, H8 NFz N hg hd, by simp, fun h => by cases h⟩
  | true => exact ⟨_, true, F1 NFz N hg hd, Qc NFz N hg hd, by have := Pj (N := N); omega, fun _ => ⟨rfl, rfl, rfl⟩⟩
end
section
open Go Go.RowKit
def zBLaCovers1 := PLift.up (And.intro ap (And.intro @b7 (And.intro bl (And.intro az (And.intro bh (And.intro @if_pos.{1} (And.intro ce (And.intro @netZ.eq_1 (And.intro @netO.eq_1 (And.intro Wz (And.intro @bne_self_eq_false.{0} (And.intro @beq_self_eq_true.{0} (And.intro @Bool.not_true (And.intro @Bool.not_false (And.intro @Bool.true_beq (And.intro @Bool.false_beq (And.intro @bz (And.intro @bq @trivial))))))))))))))))))
theorem E8 : type_of% zBLaCovers1.down := zBLaCovers1.down
set_option maxRecDepth 8000 in
set_option maxHeartbeats 0 in
theorem H7 (a b : List Int) (hA : i6 a) (hB : i6 b) : cz Tryz.prog 6 [.c (fx a), .c (fx b)] (fun r => r = [.c (.p (.bool true))]) := by
 refine uf (by simp [Arg.isIo]) Tryz.func6 rfl (by rw [Tryz.ntmps6]; simp) fun w0 => ?_;rw [Tryz.ntmps6];have dX := E8;simp only [b4, bc, Arg.av, fx];refine ab (dR fun K hK => ?_);(repeat refine eV ?_);refine aa (hK _ (wK [0, 1] ?_));clear hK K;refine ab ?_;refine ab (dR fun K hK => ?_);(repeat refine eV ?_);refine cL rfl ⟨rfl, _, rfl⟩ (by omega) (by first | exact Xj) (W0 a b hA) ?_;rintro _ rfl;(repeat refine eV ?_);refine aa (hK _ (wK [0, 24] ?_));clear hK K;refine dI ?_ ?_<;>intro hb
 ·refine ab (dR fun K hK => ?_);(repeat refine eV ?_);refine aa (hK _ (wK [4] ?_));clear hK K;exact ak (jw Tryz.results6 (.one (.re _ _ (.plain _ _ rfl))) (by decide) rfl)
 ·obtain ⟨hby, hby2⟩ := Sa hb hA hB;refine af ?_;show DW _ _ _ _ _;refine ab (dR fun K hK => ?_);(repeat refine eV ?_);refine caF rfl ⟨rfl, _, rfl⟩ (by omega) (by first | exact Ws) (F0 a hby) ?_;rintro _ ⟨N, rfl, htm⟩;(repeat refine eV ?_);refine aa (hK _ (wK [5] ?_));clear hK K;obtain ⟨L, ok, hI, hS, hLl, hok⟩ := R2 N htm;have hLs := xb L;refine ab (dR fun K hK => ?_);(repeat refine eV ?_);refine cL rfl ⟨rfl, _, rfl⟩ (by omega) (by first | exact Sw) (hI) ?_;rintro _ rfl;(repeat refine eV ?_);refine aa (hK _ (wK [5, 6, 7] ?_));clear hK K;refine ab (dR fun K hK => ?_);(repeat refine eV ?_);refine cL rfl ⟨rfl, _, rfl⟩ (by omega) (by first | exact Wr) (hS) ?_;rintro _ rfl;(repeat refine eV ?_);refine aa (hK _ (wK [5, 6, 7, 8, 9] ?_));clear hK K;refine ab ?_;refine ab (dR fun K hK => ?_);(repeat refine eV ?_);refine cgF rfl rfl ⟨rfl, _, rfl⟩ (by omega) (by first | exact Sx) (xc true 3 L true 3 L (by omega) (by omega)) ?_;rintro _ rfl;(repeat refine eV ?_);have dX := And.intro dX (@hLs);(repeat refine eV ?_);have dK := @hLs;refine aa (hK _ (ay [5, 6, 7, 45] ?_));clear hK K;refine dI ?_ ?_<;>intro hb
  ·cases hb
  ·refine af ?_;show DW _ _ _ _ _
   cases ok with
   | false =>
    refine ab ?_;refine ab (dR fun K hK => ?_);(repeat refine eV ?_);refine aa (hK _ (wK [5, 6, 47] ?_));clear hK K;refine dI ?_ ?_<;>intro hb
    ·refine ab (dR fun K hK => ?_);(repeat refine eV ?_);refine aa (hK _ (wK [4] ?_));clear hK K;exact ak (jw Tryz.results6 (.one (.re _ _ (.plain _ _ rfl))) (by decide) rfl)
    ·cases hb
   | true =>
    obtain ⟨hg, hd, hLe⟩ := hok rfl;obtain ⟨hs, hn, hids, hdg⟩ := fe hg;have hPl := r7 N;have hLi : L.Pairwise (· < ·) := by rw [hLe]; exact Am _ _
    have hLm : ∀ x ∈ L, 0 ≤ x ∧ x < (N.ends.length : Int) := by rw [hLe]; exact R0
    have hrise := Wf hLi hLm;have hIV := vl NFz N true 3 L hg hrise (by omega);have hcv : jz N L = true := by rw [hLe]; exact Li hs
    rw [hcv] at hIV;refine ab ?_;refine ab (dR fun K hK => ?_);(repeat refine eV ?_);refine aa (hK _ (wK [5, 6, 47] ?_));clear hK K;refine dI ?_ ?_<;>intro hb
    ·cases hb
    ·refine af ?_;show DW _ _ _ _ _;refine ab (dR fun K hK => ?_);(repeat refine eV ?_);refine cL rfl ⟨rfl, _, rfl⟩ (by omega) (by first | exact Wq) (hIV) ?_;rintro _ rfl;(repeat refine eV ?_);refine aa (hK _ (wK [5, 6, 10, 11] ?_));clear hK K;refine ab ?_;refine ab (dR fun K hK => ?_);(repeat refine eV ?_);refine aa (hK _ (wK [5, 6, 59] ?_));clear hK K;refine dI ?_ ?_<;>intro hb
     ·cases hb
     ·refine af ?_;show DW _ _ _ _ _;refine wl (X := Unit) (fun x => True) (fun x => mkE 145 [(5, .box), (6, .own false 1)] [((5, 0), ⟨some 27, [.sl false 103 1 (N.ends.map (esC 111)), .sl false 3 1 (N.ids.map iC), .sl false 3 1 (N.inputs.map iC)]⟩), ((6, 0), ⟨none, [.sl true 3 1 (L.map iC)]⟩)]) ?_ ?_
      ·refine ab (dR fun K hK => ?_);(repeat refine eV ?_);refine aa (hK _ (wK [5, 6, 63] ?_));clear hK K
       by_cases h14 : N.ends.length ≤ 14
       ·have d14 : decide ((N.ends.length : Int) ≤ 14) = true := decide_eq_true (by omega);obtain ⟨k, r, hk, hL⟩ := K3 (good := jz N) (n := N.ends.length) (Pg hs);have hlI := zv NFz N k r hg h14 hL;have hlS := zu NFz N k r hg h14 hL;have hll := hL.len;have h3 := Lh hs (sr _ _ _ _ hL.lt).2.1 (Tm hL.lt) hL.ok;rw [← hLe] at h3;obtain ⟨l, hl⟩ : ∃ l, l = sbs N.ends.length 0 k r := ⟨_, rfl⟩;rw [← hl] at hlI hlS hll h3;have hl1 := xb l;have hq1 : decide ((L.length : Int) > 3 * (l.length : Int)) = false := decide_eq_false (by omega);rw [d14];refine dI ?_ ?_<;>intro hb
        ·refine ab (dR fun K hK => ?_);(repeat refine eV ?_);refine cL rfl ⟨rfl, _, rfl⟩ (by omega) (by first | exact Wp) (hlI) ?_;rintro _ rfl;(repeat refine eV ?_);refine aa (hK _ (wK [5, 6, 12, 13] ?_));clear hK K;refine ab (dR fun K hK => ?_);(repeat refine eV ?_);refine cL rfl ⟨rfl, _, rfl⟩ (by omega) (by first | exact Wo) (hlS) ?_;rintro _ rfl;(repeat refine eV ?_);refine aa (hK _ (wK [5, 6, 12, 13, 14, 15] ?_));clear hK K;refine ab (dR fun K hK => ?_);(repeat refine eV ?_);refine cgF rfl rfl ⟨rfl, _, rfl⟩ (by omega) (by first | exact Sx) (xc true 3 l true 3 l (by omega) (by omega)) ?_;rintro _ rfl;(repeat refine eV ?_);have dX := And.intro dX (And.intro @hl1 @hq1);(repeat refine eV ?_);have dK := And.intro @hl1 @hq1;refine aa (hK _ (ay [5, 6, 93] ?_));clear hK K;refine dI ?_ ?_<;>intro hb
         ·cases hb
         ·refine af ?_;show ∃ x, _ ∧ Weak _ _;refine ⟨(), ?_, (cm _ [5, 6]).trans (Weak.of_eq (by simp only [ac, pZ, simprocAttr] <;> exact rfl))⟩;trivial
        ·cases hb
       ·have d14 : decide ((N.ends.length : Int) ≤ 14) = false := decide_eq_false (by omega);rw [d14];refine dI ?_ ?_<;>intro hb
        ·cases hb
        ·refine af ?_;show ∃ x, _ ∧ Weak _ _;refine ⟨(), ?_, (cm _ [5, 6]).trans (Weak.of_eq (by simp only [ac, pZ, simprocAttr] <;> exact rfl))⟩;trivial
      ·rintro x -;have hok2 : okN (dc N) = dc N := by unfold okN; rw [if_pos hd]
       have hdc := j4 NFz N hg;rw [hd, hok2] at hdc;refine ab (dR fun K hK => ?_);(repeat refine eV ?_);refine cL rfl ⟨rfl, _, rfl⟩ (by omega) (by first | exact I7) (hdc) ?_;rintro _ rfl;(repeat refine eV ?_);have dK := @netO.eq_1;refine aa (hK _ (ay [5, 6, 16, 17] ?_));clear hK K;refine t7 16 [5, 6, 16, 17] (by simp only [ac, pZ, simprocAttr]; exact rfl) ?_
       by_cases h40 : 2 * (dc N).ends.length ≤ 40
       ·have d40 : decide (2 * ((dc N).ends.length : Int) > 40) = false := decide_eq_false (by omega);have hdd : bm (dc (dc N)) = true := Oz hd h40;have hCI := F1 NFz (dc N) hd hdd;have hxl := R1 hs;rw [← hLe] at hxl;have hxm := fun v (hv : v < N.ends.length) (h : (v : Int) ∈ L) => U7 hs hv (by rw [← hLe]; exact h);obtain ⟨X, hX⟩ : ∃ X, X = cvL (dc N) := ⟨_, rfl⟩;rw [← hX] at hCI hxl hxm
        have hq2 : ((X.length : Int) != 2 * (L.length : Int)) = false := by
         rw [hxl]; simp
        refine ab ?_;have dX := And.intro dX (@d40);refine ab (dR fun K hK => ?_);(repeat refine eV ?_);have dK := @d40;refine aa (hK _ (ay [5, 6, 16, 17, 107] ?_));clear hK K;refine dI ?_ ?_<;>intro hb
        ·cases hb
        ·refine af ?_;show DW _ _ _ _ _;refine ab (dR fun K hK => ?_);(repeat refine eV ?_);refine cL rfl ⟨rfl, _, rfl⟩ (by omega) (by first | exact Sw) (hCI) ?_;rintro _ rfl;(repeat refine eV ?_);refine aa (hK _ (wK [5, 6, 18, 19] ?_));clear hK K;refine ab ?_;have dX := And.intro dX (@hq2);refine ab (dR fun K hK => ?_);(repeat refine eV ?_);have dK := @hq2;refine aa (hK _ (ay [5, 6, 18, 123] ?_));clear hK K;refine dI ?_ ?_<;>intro hb
         ·cases hb
         ·refine af ?_;show DW _ _ _ _ _;refine yr 6 [5, 6, 18] rfl rfl (by simp only [ac, pZ, simprocAttr, D2, Ak, qz, qy, k9]; exact rfl) ?_;refine yr 18 [5, 6, 18] rfl rfl (by simp only [ac, pZ, simprocAttr, D2, Ak, qz, qy, k9]; exact rfl) ?_;refine ab ?_;refine ab (dR fun K hK => ?_);(repeat refine eV ?_);refine aa (hK _ (wK [5, 18, 124, 125, 126] ?_));clear hK K;refine ae ?_;refine ax (X := Nat) (fun j => j ≤ L.length) (fun j => [(126, .c (.p (.int .i64 j)))]) (fun j => []) (fun j => L.length - j) 0 (Nat.zero_le _) (by first | rfl | (simp only [ac, pZ, simprocAttr, Int.natCast_zero] <;> rfl)) ?_;rintro j hj;intro E hE;simp only [ac, pZ, simprocAttr] at hE;subst hE;refine ab (dR fun K hK => ?_);(repeat refine eV ?_);refine aa (hK _ (wK [5, 18, 124, 125, 126, 127] ?_));clear hK K;refine ab (dI (fun hb => ?_) (fun hb => ?_))
          ·have hj1 : j < L.length := by simpa using hb
           have hjm : gi L j ∈ L := by rw [cf hj1]; exact List.getElem_mem hj1
           obtain ⟨v, hv, hvl⟩ : ∃ v : Nat, gi L j = v ∧ v < N.ends.length := by
            have h := hLm _ hjm;exact ⟨(gi L j).toNat, by omega, by omega⟩
           rw [hv] at hjm;obtain ⟨m1, m2⟩ := hxm v hvl hjm;have e1 : decide ((v : Int) ∈ X) = true := decide_eq_true m1;have hvk : (v : Int) + (N.ends.length : Int) = ((v + N.ends.length : Nat) : Int) := by omega
           have e2 : decide (((v + N.ends.length : Nat) : Int) ∈ X) = true := decide_eq_true m2;refine af ?_;show DW _ _ _ _ _;refine ab (ae ?_);have dX := And.intro dX (@hv);refine ab (dR fun K hK => ?_);(repeat refine eV ?_);have dK := @hv;refine aa (hK _ (ay [5, 18, 21, 124, 125, 126] ?_));clear hK K;have dX := And.intro dX (@hvk);refine ab (dR fun K hK => ?_);(repeat refine eV ?_);have dX := And.intro dX (@hvk);refine cL rfl ⟨rfl, _, rfl⟩ (by omega) (by first | exact Sv) (Nf false 3 X (v : Int) (by omega)) ?_;rintro _ rfl;(repeat refine eV ?_);have dX := And.intro dX (And.intro @e1 @hvk);(repeat refine eV ?_);have dX := And.intro dX (And.intro @e1 @hvk);refine cgF rfl rfl ⟨rfl, _, rfl⟩ (by omega) (by first | exact Sv) (Nf false 3 X ((v + N.ends.length : Nat) : Int) (by omega)) ?_;rintro _ rfl;(repeat refine eV ?_);have dX := And.intro dX (And.intro @e1 @e2);(repeat refine eV ?_);have dK := And.intro @e1 @e2;refine aa (hK _ (ay [5, 18, 124, 125, 126, 143] ?_));clear hK K;refine dI ?_ ?_<;>intro hb
           ·cases hb
           ·refine af ?_;show DW _ _ _ _ _;refine dR fun K hK => ?_;(repeat refine eV ?_);have dK := @bi;refine aa (hK _ ?_);clear hK K;show ∃ x, _ ∧ _ ∧ Weak _ _;refine ⟨j + 1, ?_, ?_, an [5, 18, 124, 125, 126]⟩
            ·omega
            ·omega
          ·refine am ?_;refine a7 [] (by simp only [ac, pZ, simprocAttr]; exact rfl) ?_;refine ab (dR fun K hK => ?_);(repeat refine eV ?_);refine aa (hK _ (wK [4] ?_));clear hK K;exact ak (jw Tryz.results6 (.one (.re _ _ (.plain _ _ rfl))) (by decide) rfl)
       ·have d40 : decide (2 * ((dc N).ends.length : Int) > 40) = true := decide_eq_true (by omega);refine ab ?_;have dX := And.intro dX (@d40);refine ab (dR fun K hK => ?_);(repeat refine eV ?_);have dK := @d40;refine aa (hK _ (ay [5, 6, 16, 17, 107] ?_));clear hK K;refine dI ?_ ?_<;>intro hb
        ·refine ab (dR fun K hK => ?_);(repeat refine eV ?_);refine aa (hK _ (wK [4] ?_));clear hK K;exact ak (jw Tryz.results6 (.one (.re _ _ (.plain _ _ rfl))) (by decide) rfl)
        ·cases hb
theorem K5 (v0 v1 : Value) (L0 L1 : Nat) (w : World) (h0 : F2 w v0 L0) (h1 : F2 w v1 L1) : Calls Tryz.prog 6 #[v0, v1] w (o5 w (.bool true)) := Uf (fun a b hA hB => H7 a b hA hB) h0 h1
end
end Go.Proofs.YtolpiolnhgpjjaaGreat

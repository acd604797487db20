/- Independent sets in the program, over data: independentByIds IndependentByIds greedyIndependent (empty or not) GreedyIndependent -/
import Derived.Test.YtolpiolnhgpjjaaGreatCJn50
import Derived.Test.YtolpiolnhgpjjaaGreatCDdf
import Derived.Test.YtolpiolnhgpjjaaGreatCJn38
import Derived.Test.YtolpiolnhgpjjaaGreatCJn22
set_option linter.unusedSimpArgs false
set_option linter.unusedVariables false
namespace Go.Proofs.YtolpiolnhgpjjaaGreat
set_option maxHeartbeats 0
set_option maxRecDepth 8000
open Go Go.RowKit
def indIds1St1 : Nat → Stat
 | 0 => ⟨[1], [], [], [6], [], []⟩
 | 1 => ⟨[4], [(4, 1)], [], [7], [], []⟩
 | 2 => ⟨[7], [(4, 1)], [], [8], [], []⟩
 | 3 => ⟨[6, 8], [], [], [9], [], []⟩
 | 4 => ⟨[9], [], [], [10], [], []⟩
 | 5 => ⟨[2, 10], [], [], [11], [], []⟩
 | 6 => ⟨[11, 10], [], [], [12], [], []⟩
 | 7 => ⟨[4, 10], [(4, 1)], [], [13], [], []⟩
 | 8 => ⟨[13, 10], [(4, 1)], [], [14], [], []⟩
 | 9 => ⟨[12, 14, 10], [], [], [15], [], []⟩
 | 10 => ⟨[15, 10], [], [], [16], [], []⟩
 | 11 => ⟨[2, 10], [], [], [17], [], []⟩
 | 12 => ⟨[17, 10], [], [], [18], [], []⟩
 | 13 => ⟨[3, 10], [], [], [19], [], []⟩
 | 14 => ⟨[18, 19, 10], [], [], [20], [], []⟩
 | 15 => ⟨[20, 10], [], [], [21], [], []⟩
 | 16 => ⟨[16, 21, 10], [], [], [22], [], []⟩
 | 17 => ⟨[10, 22], [], [], [23], [], []⟩
 | 18 => ⟨[23], [], [], [5], [], []⟩
 | _ => ⟨[], [], [], [], [], []⟩
def zBIp41 := PLift.up (And.intro an (And.intro aq (And.intro bh (And.intro a6 (And.intro am (And.intro @if_pos.{1} (And.intro @be (And.intro aw (And.intro @bg (And.intro @bf (And.intro @ax (And.intro @ao (And.intro @ap @trivial)))))))))))))
theorem Le : type_of% zBIp41.down := zBIp41.down
theorem tc (f : NF) (N : Net) (o : Bool) (t : TypeId) (T : List Int) (u v : Nat) (e2 : Int) (hl : T.length ≤ 1000000) (hu : u < N.ids.length) (hv : v < N.ids.length) : DCalls Tryz.prog 147 [.agg (eC ((u : Int), e2)), .rp [.sl o t 1 (T.map iC)], .rp (bw f N), .rp [.p (.int .i64 v)]] (fun r => r = [.c (.p (.bool (dr T u && decide (gi N.ids u < gi N.ids v))))]) := by
 refine au Tryz.func147 rfl (by rw [Tryz.ntmps147]; simp) fun w0 => ?_;rw [Tryz.ntmps147];have dX := Le;simp only [ce, bm, Arg.av, bw, cm, ints, ends, eC];refine ab (dR fun K hK => ?_);(repeat refine eV ?_);refine aa (hK _ (wK [1, 2, 3, 4] ?_));clear hK K;obtain h1 | h1 := Bool.eq_false_or_eq_true (dr T (u : Int))
 ·refine ab (gy indIds1St1 (fun j r => match j with | 3 => r = [.c (.p (.bool (decide (0 ≤ zr T (u : Int)))))] | _ => True) fun K hK => ?_)
  repeat (apply my; (focus exact rfl); (focus simp (disch := first | omega | (intros; contradiction)) only [ac, az, gb, pZ, simprocAttr, an, aq, bh, a6, am, if_pos, be, aw, bg, bf, ax, ao, ap , indIds1St1, dt]); (focus (simp (disch := first | omega | (intros; contradiction)) only [ac, az, pZ, simprocAttr, an, aq, bh, a6, am, if_pos, be, aw, bg, bf, ax, ao, ap , indIds1St1, dt]; exact rfl)))
  refine lp rfl ⟨rfl, _, rfl⟩ (by omega) (by first | exact dt) (by simp only [ac, az, gb, pZ, simprocAttr, an, aq, bh, a6, am, if_pos, be, aw, bg, bf, ax, ao, ap , indIds1St1, dt]) (by simp only [ac, az, gb, pZ, simprocAttr, an, aq, bh, a6, am, if_pos, be, aw, bg, bf, ax, ao, ap , indIds1St1, dt]) (by simp only [ac, az, gb, pZ, simprocAttr, an, aq, bh, a6, am, if_pos, be, aw, bg, bf, ax, ao, ap , indIds1St1, dt]) (by simp (disch := first | omega | (intros; contradiction)) only [ac, az, pZ, simprocAttr, an, aq, bh, a6, am, if_pos, be, aw, bg, bf, ax, ao, ap , indIds1St1, dt] <;> exact rfl) (jg o t T u hl) rfl ⟨_, rfl⟩ ?_;rintro _ rfl
  repeat (apply my; (focus exact rfl); (focus simp (disch := first | omega | (intros; contradiction)) only [ac, az, gb, pZ, simprocAttr, an, aq, bh, a6, am, if_pos, be, aw, bg, bf, ax, ao, ap , indIds1St1, dt]); (focus (simp (disch := first | omega | (intros; contradiction)) only [ac, az, pZ, simprocAttr, an, aq, bh, a6, am, if_pos, be, aw, bg, bf, ax, ao, ap , indIds1St1, dt]; exact rfl)))
  have dX := And.intro dX (And.intro @indIds1St1.eq_def (And.intro @bt (And.intro @h1 @Int.toNat_natCast)));(repeat refine dV ?_);have dK := And.intro @bt @h1;refine b0 (hK _ (a8 [5] ?_));clear hK K;exact aj (al Tryz.results147 (.one (.plain _ _ rfl)) (by decide) (by rw [h1]; rfl))
 ·refine ab (gy indIds1St1 (fun j r => match j with | 3 => r = [.c (.p (.bool (decide (0 ≤ zr T (u : Int)))))] | _ => True) fun K hK => ?_)
  repeat (apply my; (focus exact rfl); (focus simp (disch := first | omega | (intros; contradiction)) only [ac, az, gb, pZ, simprocAttr, an, aq, bh, a6, am, if_pos, be, aw, bg, bf, ax, ao, ap , indIds1St1, dt]); (focus (simp (disch := first | omega | (intros; contradiction)) only [ac, az, pZ, simprocAttr, an, aq, bh, a6, am, if_pos, be, aw, bg, bf, ax, ao, ap , indIds1St1, dt]; exact rfl)))
  refine lp rfl ⟨rfl, _, rfl⟩ (by omega) (by first | exact dt) (by simp only [ac, az, gb, pZ, simprocAttr, an, aq, bh, a6, am, if_pos, be, aw, bg, bf, ax, ao, ap , indIds1St1, dt]) (by simp only [ac, az, gb, pZ, simprocAttr, an, aq, bh, a6, am, if_pos, be, aw, bg, bf, ax, ao, ap , indIds1St1, dt]) (by simp only [ac, az, gb, pZ, simprocAttr, an, aq, bh, a6, am, if_pos, be, aw, bg, bf, ax, ao, ap , indIds1St1, dt]) (by simp (disch := first | omega | (intros; contradiction)) only [ac, az, pZ, simprocAttr, an, aq, bh, a6, am, if_pos, be, aw, bg, bf, ax, ao, ap , indIds1St1, dt] <;> exact rfl) (jg o t T u hl) rfl ⟨_, rfl⟩ ?_;rintro _ rfl
  repeat (apply my; (focus exact rfl); (focus simp (disch := first | omega | (intros; contradiction)) only [ac, az, gb, pZ, simprocAttr, an, aq, bh, a6, am, if_pos, be, aw, bg, bf, ax, ao, ap , indIds1St1, dt]); (focus (simp (disch := first | omega | (intros; contradiction)) only [ac, az, pZ, simprocAttr, an, aq, bh, a6, am, if_pos, be, aw, bg, bf, ax, ao, ap , indIds1St1, dt]; exact rfl)))
  have dX := And.intro dX (And.intro @indIds1St1.eq_def (And.intro @bt @h1));(repeat refine dV ?_);have dK := And.intro @bt @h1;refine b0 (hK _ (a8 [5] ?_));clear hK K;exact aj (al Tryz.results147 (.one (.plain _ _ rfl)) (by decide) (by rw [h1]; rfl))
theorem tb (f : NF) (N : Net) (o : Bool) (t : TypeId) (V : List Int) (v : Nat) (hg : bn N = true) (hv : v < N.ends.length) (hl : V.length ≤ 1000000) : DCalls Tryz.prog 149 [.c (.p (.int .i64 v)), .rp [.sl o t 1 (V.map iC)], .rp (bw f N)] (fun r => r = [.c (.p (.bool (dr V v || dq N v V)))]) := by
 refine au Tryz.func149 rfl (by rw [Tryz.ntmps149]; simp) fun w0 => ?_;rw [Tryz.ntmps149];have dX := Le;simp only [ce, bm, Arg.av, bw, cm, ints, ends];refine ab (dR fun K hK => ?_);(repeat refine eV ?_);refine aa (hK _ (wK [0, 1, 2] ?_));clear hK K;refine ab (dR fun K hK => ?_)
 repeat (apply bj; (focus exact rfl); (focus (simp (disch := first | omega | (intros; contradiction)) only [ac, az, pZ, simprocAttr, an, aq, bh, a6, am, if_pos, be, aw, bg, bf, ax, ao, ap , dt, ld, bt]; exact rfl)))
 refine cu rfl ⟨rfl, _, rfl⟩ (by omega) (by first | exact dt | exact ld) (by simp (disch := first | omega | (intros; contradiction)) only [ac, az, pZ, simprocAttr, an, aq, bh, a6, am, if_pos, be, aw, bg, bf, ax, ao, ap , dt, ld, bt] <;> exact rfl) (jg o t V v hl) ?_;rintro _ rfl
 repeat (apply bj; (focus exact rfl); (focus (simp (disch := first | omega | (intros; contradiction)) only [ac, az, pZ, simprocAttr, an, aq, bh, a6, am, if_pos, be, aw, bg, bf, ax, ao, ap , dt, ld, bt]; exact rfl)))
 obtain h1 | h1 := Bool.eq_false_or_eq_true (dr V (v : Int))
 ·have dX := And.intro dX (And.intro @bt @h1);(repeat refine eV ?_);have dX := And.intro dX (And.intro @bt @h1);refine csF ?_;(repeat refine eV ?_);have dX := And.intro dX (And.intro @bt @h1);(repeat refine eV ?_);have dK := And.intro @bt @h1;refine aa (hK _ (a8 [4] ?_));clear hK K;exact aj (al Tryz.results149 (.one (.plain _ _ rfl)) (by decide) (by rw [h1]; rfl))
 ·have dX := And.intro dX (And.intro @bt @h1);(repeat refine eV ?_);refine cgF rfl rfl ⟨rfl, _, rfl⟩ (by omega) (by first | exact dt | exact ld) (yd f N v o t V hg hv hl) ?_;rintro _ rfl
  repeat (apply bj; (focus exact rfl); (focus (simp (disch := first | omega | (intros; contradiction)) only [ac, az, pZ, simprocAttr, an, aq, bh, a6, am, if_pos, be, aw, bg, bf, ax, ao, ap , dt, ld, bt, h1]; exact rfl)))
  have dX := And.intro dX (And.intro @bt @h1);(repeat refine eV ?_);have dK := And.intro @bt @h1;refine aa (hK _ (a8 [4] ?_));clear hK K;exact aj (al Tryz.results149 (.one (.plain _ _ rfl)) (by decide) (by rw [h1]; rfl))
theorem Un {N : Net} {O : List Int} (hs : Sym N.ends) (hl : N.ids.length = N.ends.length) (hO : ∀ x ∈ O, 0 ≤ x ∧ x.toNat < N.ends.length) {v : Nat} (hv : v < N.ends.length) : (pn (gl N.ends v).length fun j => dr O (gp (gl N.ends v) j).1 && decide (gi N.ids (gp (gl N.ends v) j).1.toNat < gi N.ids v)) = e9 (fun (v w : Nat) => b8 N v (w : Int)) (rkN N.ids) v O := by
 rw [Bool.eq_iff_iff, me, e9, List.any_eq_true];constructor
 ·rintro ⟨j, hj, h⟩;rw [Bool.and_eq_true, fb, decide_eq_true_eq] at h;have h2 := hO _ h.1;refine ⟨_, h.1, ?_⟩;rw [Bool.and_eq_true, decide_eq_true_eq];exact ⟨em.2 ⟨j, hj, by omega⟩, (zz (ids := N.ids) (by omega) (by omega)).2 h.2⟩
 ·rintro ⟨x, hx, h⟩;rw [Bool.and_eq_true, decide_eq_true_eq] at h;have h2 := hO _ hx;obtain ⟨j, hj, he⟩ := em.1 h.1;have hxe : (gp (gl N.ends v) j).1 = x := by rw [he]; omega
  refine ⟨j, hj, ?_⟩;rw [Bool.and_eq_true, fb, decide_eq_true_eq, hxe];exact ⟨hx, (zz (ids := N.ids) (by omega) (by omega)).1 h.2⟩
theorem ta (f : NF) (N : Net) (r : Nat) (O : List Int) (J : Nat → Nat → Bool) (rk : Nat → Nat) (hO : O = d7 N N.ends.length) (hJ : J = fun (v w : Nat) => b8 N v (w : Int)) (hrk : rk = rkN N.ids) (hg : bn N = true) (hi : N.ids.length ≠ 0) (hr : cp J rk O r = []) (hlt : ∀ j, j < r → cp J rk O j ≠ []) (hrl : r ≤ 1000) : DCalls Tryz.prog 56 [.agg (bw f N)] (fun res => res = [.own false [.sl true 3 1 ((bc (jp J rk O r)).map iC)], .c (.p (.int .i64 r))]) := by
 obtain ⟨hs, hn, hids, hdg⟩ := dz hg;have hil := B7 hg hi;have hOl : O.length ≤ 40 := by have := lm N N.ends.length; rw [hO]; omega
 have hOm : ∀ x ∈ O, 0 ≤ x ∧ x.toNat < N.ends.length := fun x hx => by rw [hO] at hx; have := jl.1 hx; exact ⟨this.1, this.2.1⟩
 have hs0 : jp J rk O 0 = [] := rfl;have ho0 : cp J rk O 0 = O := rfl;refine au Tryz.func56 rfl (by rw [Tryz.ntmps56]; simp) fun w0 => ?_;rw [Tryz.ntmps56];have dX := Le;simp only [ce, bm, Arg.av, bw, cm, ints, ends];refine ab (dR fun K hK => ?_);(repeat refine eV ?_);refine aa (hK _ (wK [1] ?_));clear hK K;refine ab (dR fun K hK => ?_);(repeat refine eV ?_);refine aa (hK _ (wK [1, 4, 5] ?_));clear hK K;refine mc 4 0 3 1 (by decide) (by simp only [ac, pZ, simprocAttr]; exact rfl) rfl [1, 4, 5] (by simp only [ac, pZ, simprocAttr]; exact rfl) ?_;refine ev 5 3 1 (by decide) (by simp only [ac, pZ, simprocAttr]) [1, 4, 5] (by simp only [ac, pZ, simprocAttr]; exact rfl) ?_;refine ab ?_;refine ab (dR fun K hK => ?_);(repeat refine eV ?_);refine aa (hK _ (wK [1, 4, 5, 14, 15] ?_));clear hK K;refine af ?_;refine ba (X := Nat) (fun k => k ≤ N.ends.length) (fun k => [(15, .c (.p (.int .i64 k)))]) (fun k => [((4, 0), ⟨some 25, [.sl true 3 1 ((d7 N k).map iC)]⟩)]) (fun k => N.ends.length - k) 0 (Nat.zero_le _) (by first | rfl | (simp only [ac, pZ, simprocAttr, Int.natCast_zero, d7] <;> rfl)) ?_;rintro k hk;intro E hE;simp only [ac, pZ, simprocAttr] at hE;subst hE;have hfl := lm N k;refine ab (dR fun K hK => ?_);(repeat refine eV ?_);refine aa (hK _ (wK [1, 4, 5, 14, 15, 16] ?_));clear hK K;refine ab (dI (fun hb => ?_) (fun hb => ?_))
 ·have hk1 : k < N.ends.length := by simpa using hb
  refine ae ?_;show DW _ _ _ _ _;refine ab (af ?_);refine ab (dR fun K hK => ?_);(repeat refine eV ?_);refine aa (hK _ (wK [1, 4, 5, 6, 14, 15] ?_));clear hK K;refine ab (dR fun K hK => ?_);(repeat refine eV ?_);refine cL rfl ⟨rfl, _, rfl⟩ (by omega) (by first | exact qv) (ry ⟨false, f.t1, f.o2, f.t2, false, f.t3, false, f.t4⟩ N k k hg hk1) ?_;rintro _ rfl;(repeat refine eV ?_);refine aa (hK _ (wK [1, 4, 5, 6, 14, 15, 22] ?_));clear hK K;refine dI ?_ ?_<;>intro hb
  ·have hm : d7 N (k + 1) = d7 N k ++ [(k : Int)] := by rw [d7, if_neg (by simpa using hb)]
   refine dR fun K hK => ?_;(repeat refine eV ?_);have dK := And.intro @f8 (Eq.symm hm);refine aa (hK _ (a8 [1, 4, 5, 14, 15] ?_));clear hK K;refine dR fun K hK => ?_;(repeat refine eV ?_);have dK := @bq;refine aa (hK _ ?_);clear hK K;show ∃ x, _ ∧ _ ∧ Weak _ _;refine ⟨k + 1, ?_, ?_, a7 [1, 4, 5, 14, 15]⟩
   ·omega
   ·omega
  ·have hm : d7 N (k + 1) = d7 N k := by rw [d7, if_pos (by simpa using hb)]
   refine ae ?_;show DW _ _ _ _ _;refine dR fun K hK => ?_;(repeat refine eV ?_);have dK := And.intro @bq (Eq.symm hm);refine aa (hK _ ?_);clear hK K;show ∃ x, _ ∧ _ ∧ Weak _ _;refine ⟨k + 1, ?_, ?_, a7 [1, 4, 5, 14, 15]⟩
   ·omega
   ·omega
 ·have hk2 : k = N.ends.length := by
   have : ¬ k < N.ends.length := by simpa using hb
   omega
  rw [hk2, ← hO];refine ay ?_;refine bi [1, 4, 5] (by simp only [ac, pZ, simprocAttr]; exact rfl) ?_;refine ab (dR fun K hK => ?_);(repeat refine eV ?_);refine aa (hK _ (wK [1, 4, 5, 7] ?_));clear hK K;refine ab (af ?_);refine ba (X := Nat) (fun i => i ≤ r) (fun i => [(7, .c (.p (.int .i64 i)))]) (fun i => [((4, 0), ⟨some 25, [.sl true 3 1 ((cp J rk O i).map iC)]⟩), ((5, 0), ⟨none, [.sl true 3 1 ((jp J rk O i).map iC)]⟩)]) (fun i => r - i) 0 (Nat.zero_le _) (by first | rfl | (simp only [ac, pZ, simprocAttr, Int.natCast_zero, hs0, ho0] <;> rfl)) ?_;rintro i hi2;intro E hE;simp only [ac, pZ, simprocAttr] at hE;subst hE;have hsl := v7 J rk O i;have hsub := wm (nr := J) (rk := rk) (O := O) i;have hsr : jp J rk O (i + 1) = jp J rk O i ++ (cp J rk O i).filter fun x => !e9 J rk x.toNat (cp J rk O i) := rfl;have hor : cp J rk O (i + 1) = (cp J rk O i).filter fun x => !(((cp J rk O i).filter fun x => !e9 J rk x.toNat (cp J rk O i)).contains x || nrB J x.toNat ((cp J rk O i).filter fun x => !e9 J rk x.toNat (cp J rk O i))) := rfl
  by_cases hir : i < r
  ·have hne : 0 < (cp J rk O i).length := by
    rcases Nat.eq_zero_or_pos (cp J rk O i).length with h | h
    ·exact absurd (List.eq_nil_of_length_eq_zero h) (hlt i hir)
    ·exact h
   obtain ⟨T, hT⟩ : ∃ T, T = cp J rk O i := ⟨_, rfl⟩;obtain ⟨U, hU⟩ : ∃ U, U = jp J rk O i := ⟨_, rfl⟩;rw [← hT] at hsl hsub hsr hor hne ⊢;rw [← hU] at hsl hsr ⊢
   have hTn : ∀ q, q < T.length → ∃ v : Nat, gi T q = v ∧ v < N.ends.length ∧ (v : Int) ∈ T := fun q hq => by
    have h1 := List.getElem_mem hq;rw [← bo hq] at h1;have h2 := hOm _ (hsub _ h1);exact ⟨(gi T q).toNat, by omega, by omega, by rw [show (((gi T q).toNat : Nat) : Int) = gi T q by omega]; exact h1⟩
   have hTl : ∀ x ∈ T, 0 ≤ x ∧ x.toNat < N.ends.length := fun x hx => hOm x (hsub x hx);have hgt : decide ((T.length : Int) > 0) = true := decide_eq_true (by omega);have hg0 : (T.take 0).filter (fun x => !e9 J rk x.toNat T) = [] := by simp
   have hfa : (T.take T.length).filter (fun x => !e9 J rk x.toNat T) = T.filter fun x => !e9 J rk x.toNat T := by rw [List.take_length]
   refine ab ?_;have dX := And.intro dX (@hgt);refine ab (dR fun K hK => ?_);(repeat refine eV ?_);have dK := @hgt;refine aa (hK _ (a8 [1, 4, 5, 7, 30] ?_));clear hK K;refine dI ?_ ?_<;>intro hb
   ·refine ae ?_;show DW _ _ _ _ _;refine ab (af ?_);refine ab (dR fun K hK => ?_);(repeat refine eV ?_);refine aa (hK _ (wK [1, 4, 5, 7, 8] ?_));clear hK K;refine mc 8 0 3 1 (by decide) (by simp only [ac, pZ, simprocAttr]; exact rfl) rfl [1, 4, 5, 7, 8] (by simp only [ac, pZ, simprocAttr]; exact rfl) ?_;refine ab ?_;refine ab (dR fun K hK => ?_);(repeat refine eV ?_);refine aa (hK _ (wK [1, 4, 5, 7, 8, 33, 34, 35] ?_));clear hK K;refine af ?_;refine ba (X := Nat) (fun q => q ≤ T.length) (fun q => [(35, .c (.p (.int .i64 q)))]) (fun q => [((8, 0), ⟨some 25, [.sl true 3 1 (((T.take q).filter fun x => !e9 J rk x.toNat T).map iC)]⟩)]) (fun q => T.length - q) 0 (Nat.zero_le _) (by first | rfl | (simp only [ac, pZ, simprocAttr, Int.natCast_zero, hg0] <;> rfl)) ?_;rintro q hq;intro E hE;simp only [ac, pZ, simprocAttr] at hE;subst hE;have hql : ((T.take q).filter fun x => !e9 J rk x.toNat T).length ≤ T.length := Nat.le_trans (List.length_filter_le _ _) (by rw [List.length_take]; omega);refine ab (dR fun K hK => ?_);(repeat refine eV ?_);refine aa (hK _ (wK [1, 4, 5, 7, 8, 33, 34, 35, 36] ?_));clear hK K;refine ab (dI (fun hb => ?_) (fun hb => ?_))
    ·have hq1 : q < T.length := by simpa using hb
     obtain ⟨v, hve, hvl, hvm⟩ := hTn q hq1;have hft := rm (p := fun x => !e9 J rk x.toNat T) hq1;rw [hve, Int.toNat_natCast] at hft;have hal : (pn (gl N.ends v).length fun j => dr T (gp (gl N.ends v) j).1 && decide (gi N.ids (gp (gl N.ends v) j).1.toNat < gi N.ids v)) = e9 J rk v T := by rw [hJ, hrk]; exact Un hs hil hTl hvl
     have hclo : ∀ j, j < (gl N.ends v).length → DCalls Tryz.prog 147 ([.agg (eC (gp (gl N.ends v) j))] ++ [[C.sl true 3 1 (T.map iC)], bw ⟨false, f.t1, f.o2, f.t2, false, f.t3, false, f.t4⟩ N, [C.p (.int .i64 v)]].map .rp) (fun r => r = [.c (.p (.bool (dr T (gp (gl N.ends v) j).1 && decide (gi N.ids (gp (gl N.ends v) j).1.toNat < gi N.ids v))))]) := fun j hj => by
      obtain ⟨q1, q2, q3, q4, q5⟩ := t6 hs hvl hj;rw [q5];exact tc ⟨false, f.t1, f.o2, f.t2, false, f.t3, false, f.t4⟩ N true 3 T (nd N v j) v _ (by omega) (by omega) (by omega)
     simp only [bw, cm, ints, ends] at hclo;have hdv := hdg v;refine ae ?_;show DW _ _ _ _ _;refine ab (af ?_);have dX := And.intro dX (@hve);refine ab (dR fun K hK => ?_);(repeat refine eV ?_);have dK := @hve;refine aa (hK _ (a8 [1, 4, 5, 7, 8, 10, 33, 34, 35] ?_));clear hK K;refine ab (dR fun K hK => ?_)
     repeat (apply bj; (focus exact rfl); (focus (simp (disch := first | omega | (intros; contradiction)) only [ac, az, pZ, simprocAttr, an, aq, bh, a6, am, if_pos, be, aw, bg, bf, ax, ao, ap , kx, Int.toNat_natCast]; exact rfl)))
     refine cu rfl ⟨rfl, _, rfl⟩ (by omega) (by first | exact kx) (by simp (disch := first | omega | (intros; contradiction)) only [ac, az, pZ, simprocAttr, an, aq, bh, a6, am, if_pos, be, aw, bg, bf, ax, ao, ap , kx] <;> exact rfl) (lb f.o2 f.t2 (gl N.ends v) 147 _ _ (by omega) Wm hclo) ?_;rintro _ rfl
     repeat (apply bj; (focus exact rfl); (focus (simp (disch := first | omega | (intros; contradiction)) only [ac, az, pZ, simprocAttr, an, aq, bh, a6, am, if_pos, be, aw, bg, bf, ax, ao, ap , kx]; exact rfl)))
     have dK := @hal;refine aa (hK _ (a8 [1, 4, 5, 7, 8, 10, 11, 33, 34, 35] ?_));clear hK K;refine ab (dR fun K hK => ?_);(repeat refine eV ?_);refine aa (hK _ (wK [1, 4, 5, 7, 8, 10, 33, 34, 35, 47] ?_));clear hK K;refine dI ?_ ?_<;>intro hb
     ·have hft2 : ((T.take q).filter fun x => !e9 J rk x.toNat T) ++ [(v : Int)] = (T.take (q + 1)).filter fun x => !e9 J rk x.toNat T := by rw [hft, if_pos hb]
      refine dR fun K hK => ?_;(repeat refine eV ?_);have dK := And.intro @f8 @hft2;refine aa (hK _ (a8 [1, 4, 5, 7, 8, 33, 34, 35] ?_));clear hK K;refine dR fun K hK => ?_;(repeat refine eV ?_);have dK := @bq;refine aa (hK _ ?_);clear hK K;show ∃ x, _ ∧ _ ∧ Weak _ _;refine ⟨q + 1, ?_, ?_, a7 [1, 4, 5, 7, 8, 33, 34, 35]⟩
      ·omega
      ·omega
     ·have hft2 : (T.take (q + 1)).filter (fun x => !e9 J rk x.toNat T) = (T.take q).filter fun x => !e9 J rk x.toNat T := by rw [hft, if_neg (by rw [hb]; decide), List.append_nil]
      refine ae ?_;show DW _ _ _ _ _;refine dR fun K hK => ?_;(repeat refine eV ?_);have dK := And.intro @bq @hft2;refine aa (hK _ ?_);clear hK K;show ∃ x, _ ∧ _ ∧ Weak _ _;refine ⟨q + 1, ?_, ?_, a7 [1, 4, 5, 7, 8, 33, 34, 35]⟩
      ·omega
      ·omega
    ·have hq2 : q = T.length := by
      have : ¬ q < T.length := by simpa using hb
      omega
     rw [hq2, hfa];obtain ⟨V, hV⟩ : ∃ V, V = T.filter fun x => !e9 J rk x.toNat T := ⟨_, rfl⟩;rw [← hV] at hor hsr ⊢;have hV0 : ∀ x ∈ V, 0 ≤ x := fun x hx => by rw [hV] at hx; exact (hTl x (List.mem_filter.1 hx).1).1
     have hVl : V.length ≤ 1000000 := by rw [hV]; exact Nat.le_trans (List.length_filter_le _ _) (by omega)
     have hdel : T.filter (fun x => !(dr V x || dq N x.toNat V)) = cp J rk O (i + 1) := by
      rw [hor];refine List.filter_congr fun x hx => ?_;rw [hJ, ← Mr hV0]; rfl
     have hclo : ∀ j, j < T.length → DCalls Tryz.prog 149 ([.c (.p (.int .i64 (gi T j)))] ++ [[C.sl true 3 1 (V.map iC)], bw ⟨false, f.t1, f.o2, f.t2, false, f.t3, false, f.t4⟩ N].map .rp) (fun r => r = [.c (.p (.bool (dr V (gi T j) || dq N (gi T j).toNat V)))]) := fun j hj => by
      obtain ⟨v, hve, hvl, -⟩ := hTn j hj;rw [hve, Int.toNat_natCast];exact tb ⟨false, f.t1, f.o2, f.t2, false, f.t3, false, f.t4⟩ N true 3 V v hg hvl hVl
     simp only [bw, cm, ints, ends] at hclo;refine ay ?_;refine bi [1, 4, 5, 7, 8] (by simp only [ac, pZ, simprocAttr]; exact rfl) ?_;refine ab (dR fun K hK => ?_);(repeat refine eV ?_);have dK := And.intro @Cs (Eq.symm hsr);refine aa (hK _ (a8 [1, 4, 5, 7, 8] ?_));clear hK K;refine dR fun K hK => ?_
     repeat (apply bj; (focus exact rfl); (focus (simp (disch := first | omega | (intros; contradiction)) only [ac, az, pZ, simprocAttr, an, aq, bh, a6, am, if_pos, be, aw, bg, bf, ax, ao, ap , Km]; exact rfl)))
     refine gmF (hag := fun _ => rfl) rfl ⟨rfl, _, rfl⟩ (by omega) (by first | exact Km) (Gy T 149 _ (fun x => dr V x || dq N x.toNat V) (by omega) Wl hclo) ?_;rintro _ rfl;refine Ih ?_
     repeat (apply bj; (focus exact rfl); (focus (simp (disch := first | omega | (intros; contradiction)) only [ac, az, pZ, simprocAttr, an, aq, bh, a6, am, if_pos, be, aw, bg, bf, ax, ao, ap , Km]; exact rfl)))
     have dK := @hdel;refine aa (hK _ (a8 [1, 4, 5, 7] ?_));clear hK K;refine dR fun K hK => ?_;(repeat refine eV ?_);have dK := @bq;refine aa (hK _ ?_);clear hK K;show ∃ x, _ ∧ _ ∧ Weak _ _;refine ⟨i + 1, ?_, ?_, a7 [1, 4, 5, 7]⟩
     ·omega
     ·omega
   ·cases hb
  ·have hir2 : i = r := by omega
   have hgt : decide (((cp J rk O i).length : Int) > 0) = false := decide_eq_false (by rw [hir2, hr]; simp);have hsl2 : (jp J rk O i).length ≤ 40 := by omega
   refine ab ?_;have dX := And.intro dX (@hgt);refine ab (dR fun K hK => ?_);(repeat refine eV ?_);have dK := @hgt;refine aa (hK _ (a8 [1, 4, 5, 7, 30] ?_));clear hK K;refine dI ?_ ?_<;>intro hb
   ·cases hb
   ·refine ay ?_;refine bi [5, 7] (by simp only [ac, pZ, simprocAttr]; exact rfl) ?_
    rcases Nat.eq_zero_or_pos (jp J rk O i).length with he | he
    ·have he2 : jp J rk O i = [] := List.eq_nil_of_length_eq_zero he;rw [he2];simp only [List.map_nil];refine ab (dR fun K hK => ?_)
     repeat (apply bj; (focus exact rfl); (focus (simp (disch := first | omega | (intros; contradiction)) only [ac, az, pZ, simprocAttr, an, aq, bh, a6, am, if_pos, be, aw, bg, bf, ax, ao, ap , wu]; exact rfl)))
     refine cu rfl ⟨rfl, _, rfl⟩ (by omega) (by first | exact wu) (by simp (disch := first | omega | (intros; contradiction)) only [ac, az, pZ, simprocAttr, an, aq, bh, a6, am, if_pos, be, aw, bg, bf, ax, ao, ap , wu] <;> exact rfl) (Nk true 3) ?_;rintro _ rfl
     repeat (apply bj; (focus exact rfl); (focus (simp (disch := first | omega | (intros; contradiction)) only [ac, az, pZ, simprocAttr, an, aq, bh, a6, am, if_pos, be, aw, bg, bf, ax, ao, ap , wu]; exact rfl)))
     refine aa (hK _ (wK [5, 7] ?_));clear hK K;refine ab (dR fun K hK => ?_);(repeat refine eV ?_);refine aa (hK _ (wK [2, 3] ?_));clear hK K;exact aj (al Tryz.results56 (.two (.own _ _ _ _ rfl rfl (own1 (bd _ []))) (.plain _ _ rfl)) (by decide) (by rw [← hir2, he2]; simp [bc]))
    ·refine ab (M8 (r := 5) (s := 59) (d := 60) (t := 3) (xs := jp J rk O i) rfl rfl rfl rfl rfl rfl rfl rfl (by show 59 < 63; omega) (by show 60 < 63; omega) (by omega) (by omega) he (by omega) ?_);refine bi [5, 7] (by simp only [ac, pZ, simprocAttr]; exact rfl) ?_;refine ab (dR fun K hK => ?_);(repeat refine eV ?_);refine aa (hK _ (wK [2, 3] ?_));clear hK K;exact aj (al Tryz.results56 (.two (.own _ _ _ _ rfl rfl (own1 (bd _ _))) (.plain _ _ rfl)) (by decide) (by rw [hir2]))
end Go.Proofs.YtolpiolnhgpjjaaGreat

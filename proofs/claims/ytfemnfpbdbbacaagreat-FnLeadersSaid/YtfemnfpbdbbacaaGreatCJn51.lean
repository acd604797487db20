/- Parts of the proof. -/
import Derived.Test.YtfemnfpbdbbacaaGreatCJn50
import Derived.Test.YtfemnfpbdbbacaaGreatCLd4
import Derived.Test.YtfemnfpbdbbacaaGreatCJn21
import Derived.Test.YtfemnfpbdbbacaaGreatCJn23
import Derived.Test.YtfemnfpbdbbacaaGreatCJn47
import Derived.Test.YtfemnfpbdbbacaaGreatCJn27
import Derived.Test.YtfemnfpbdbbacaaGreatCJn29
import Derived.Test.YtfemnfpbdbbacaaGreatCJn30
import Derived.Test.YtfemnfpbdbbacaaGreatCJn35
set_option linter.unusedSimpArgs false
set_option linter.unusedVariables false
namespace Go.Proofs.YtfemnfpbdbbacaaGreat
section
open Go Go.RowKit
theorem Pg (a b : Int) : DCalls Tryz.prog 31 [.c (.p (.int .i64 a)), .c (.p (.int .i64 b))] (fun r => r = [.c (.p (.int .i64 (mnI a b)))]) := Ph a b
def elsSt21 : Nat → Stat
 | 0 => ⟨[12], [], [], [70], [], []⟩
 | 1 => ⟨[16], [(16, 1)], [], [71], [], []⟩
 | 2 => ⟨[71], [(16, 1)], [], [72], [], []⟩
 | 3 => ⟨[12], [], [], [73], [], []⟩
 | 4 => ⟨[16], [(16, 1)], [], [74], [], []⟩
 | 5 => ⟨[74], [(16, 1)], [], [75], [], []⟩
 | 6 => ⟨[73, 75], [(12, 1)], [], [76], [], []⟩
 | 7 => ⟨[76], [(12, 2)], [], [77], [], []⟩
 | 8 => ⟨[6], [], [], [78], [], []⟩
 | 9 => ⟨[13], [], [], [79], [], []⟩
 | 10 => ⟨[78, 79], [(6, 1)], [], [80], [], []⟩
 | 11 => ⟨[80], [(6, 2)], [], [81], [], []⟩
 | 12 => ⟨[77, 81], [], [], [82], [], []⟩
 | 13 => ⟨[70, 72], [(12, 1)], [], [83], [], []⟩
 | 14 => ⟨[83, 82], [(12, 2)], [], [], [(12, 2)], []⟩
 | _ => ⟨[], [], [], [], [], []⟩
def elsSt31 : Nat → Stat
 | 0 => ⟨[7], [], [], [103], [], []⟩
 | 1 => ⟨[17], [], [], [104], [], []⟩
 | 2 => ⟨[12], [], [], [105], [], []⟩
 | 3 => ⟨[17], [], [], [106], [], []⟩
 | 4 => ⟨[105, 106], [(12, 1)], [], [107], [], []⟩
 | 5 => ⟨[107], [(12, 2)], [], [108], [], []⟩
 | 6 => ⟨[6], [], [], [109], [], []⟩
 | 7 => ⟨[17], [], [], [110], [], []⟩
 | 8 => ⟨[109, 110], [(6, 1)], [], [111], [], []⟩
 | 9 => ⟨[111], [(6, 2)], [], [112], [], []⟩
 | 10 => ⟨[108, 112], [], [], [113], [], []⟩
 | 11 => ⟨[103, 104], [(7, 1)], [], [114], [], []⟩
 | 12 => ⟨[114, 113], [(7, 2)], [], [], [(7, 2)], []⟩
 | _ => ⟨[], [], [], [], [], []⟩
def zBLd51 := PLift.up (And.intro ap (And.intro @bt (And.intro bl (And.intro bw (And.intro b6 (And.intro b4 (And.intro a7 (And.intro jas (And.intro jca (And.intro @jcb (And.intro @jbk (And.intro @Zv (And.intro @if_pos.{1} (And.intro @cg (And.intro @cf (And.intro @bi (And.intro @b8 (And.intro @ce @trivial))))))))))))))))))
theorem Yz : type_of% zBLd51.down := zBLd51.down
set_option maxRecDepth 8000 in
set_option maxHeartbeats 0 in
theorem Cl (f : NF) (N : Net) (T : Nat) (hg : bb N = true) (hi : N.ids.length = N.ends.length) (hc : em N 0 = true) (hT : T ≤ 41) (hz : sE N (frE N T) N.ends.length = 0) (hlt : ∀ s, s < T → sE N (frE N s) N.ends.length ≠ 0) : DCalls Tryz.prog 7 [.agg (br f N)] (fun r => r = [.c (.p (.int .i64 (gi (knL N T) 0))), .c (.p (.int .i64 T)), .c (.p (.int .i64 (msE N T : Nat))), .c (.p (.bool true))]) := by
 obtain ⟨hs, hn, hids, hdg⟩ := ew hg;have hi0 : ((N.ids.length : Int) == 0) = false := by rw [beq_eq_false_iff_ne]; omega
 have hk0 : knL N 0 = N.ids := rfl;have hm0 : msE N 0 = 0 := rfl;have hzb : ev [.bool false] N.ends.length = bL (wn (fun _ => false) (fun _ => true) 0) N.ends.length := by rw [Xj, Dp]
 have hfb : bL (wn (fun _ => false) (fun _ => true) N.ends.length) N.ends.length = bL (frE N 0) N.ends.length := Hr _ _ _;refine ao Tryz.func7 rfl (by rw [Tryz.ntmps7]; simp) fun w0 => ?_;rw [Tryz.ntmps7];have dX := Yz;simp only [b7, bf, Arg.av, br, ch, ints, ends];refine ab (dR fun K hK => ?_);(repeat refine eV ?_);refine aa (hK _ (wK [1] ?_));clear hK K;refine ab ?_;refine ab (dR fun K hK => ?_);(repeat refine eV ?_);refine cL rfl ⟨rfl, _, rfl⟩ (by omega) (by first | exact xz | exact xy) (uf ⟨false, f.t1, f.o2, f.t2, false, f.t3, false, f.t4⟩ N) ?_;rintro _ rfl;(repeat refine eV ?_);have dX := And.intro dX (And.intro @hg @hi0);(repeat refine eV ?_);have dX := And.intro dX (And.intro @hg @hi0);refine cgF rfl rfl ⟨rfl, _, rfl⟩ (by omega) (by first | exact xz | exact xy) (jl ⟨false, f.t1, f.o2, f.t2, false, f.t3, false, f.t4⟩ N hg) ?_;rintro _ rfl;(repeat refine eV ?_);have dX := And.intro dX (And.intro @hg (And.intro @hi0 @hc));(repeat refine eV ?_);have dK := And.intro @hg (And.intro @hi0 @hc);refine aa (hK _ (az [1, 31] ?_));clear hK K;refine dI ?_ ?_<;>intro hb
 ·cases hb
 ·refine ah ?_;show DW _ _ _ _ _;refine ab (dR fun K hK => ?_);(repeat refine eV ?_);refine cL rfl ⟨rfl, _, rfl⟩ (by omega) (by first | exact W7) (M1 false f.t3 N.ids (by omega)) ?_;rintro _ rfl;(repeat refine eV ?_);refine aa (hK _ (wK [1, 6] ?_));clear hK K;have dX := And.intro dX (And.intro @hi (And.intro @hzb @Int.toNat_natCast));refine ab (dR fun K hK => ?_);(repeat refine eV ?_);have dK := And.intro @hi (And.intro @hzb @Int.toNat_natCast);refine aa (hK _ (az [1, 6, 7] ?_));clear hK K;refine ab ?_;refine ab (dR fun K hK => ?_);(repeat refine eV ?_);refine aa (hK _ (wK [1, 6, 7, 39, 40] ?_));clear hK K;refine ae ?_;refine au (X := Nat) (fun v => v ≤ N.ends.length) (fun v => [(40, .c (.p (.int .i64 v)))]) (fun v => [((7, 0), ⟨none, [.sl true 4 1 (bL (wn (fun _ => false) (fun _ => true) v) N.ends.length)]⟩)]) (fun v => N.ends.length - v) 0 (Nat.zero_le _) (by first | rfl | (simp only [ac, pZ, simprocAttr, Int.natCast_zero] <;> rfl)) ?_;rintro v hv;intro E hE;simp only [ac, pZ, simprocAttr] at hE;subst hE;have hms0 := Dq (fun _ => false) (fun _ => true) v;obtain ⟨c0, hc0⟩ : ∃ c0, c0 = wn (fun _ => false) (fun _ => true) v := ⟨_, rfl⟩;rw [← hc0] at hms0 ⊢;refine ab (dR fun K hK => ?_);(repeat refine eV ?_);refine aa (hK _ (wK [1, 6, 7, 39, 40, 41] ?_));clear hK K;refine ab (dI (fun hb => ?_) (fun hb => ?_))
  ·have hv1 : v < N.ends.length := by simpa using hb
   refine ah ?_;show DW _ _ _ _ _;refine ab (ae ?_);refine ab (dR fun K hK => ?_);(repeat refine eV ?_);refine aa (hK _ (wK [1, 6, 7, 8, 39, 40] ?_));clear hK K;have dX := And.intro dX (@Int.toNat_natCast);refine dR fun K hK => ?_;(repeat refine eV ?_);have dK := And.intro @ja1 @hms0;refine aa (hK _ (az [1, 6, 7, 39, 40] ?_));clear hK K;refine dR fun K hK => ?_;(repeat refine eV ?_);have dK := @bp;refine aa (hK _ ?_);clear hK K;show ∃ x, _ ∧ _ ∧ Weak _ _;refine ⟨v + 1, ?_, ?_, a6 [1, 6, 7, 39, 40]⟩
   ·omega
   ·omega
  ·have hv2 : v = N.ends.length := by
    have : ¬ v < N.ends.length := by simpa using hb
    omega
   rw [hc0, hv2, hfb];refine an ?_;refine ba [1, 6, 7] (by simp only [ac, pZ, simprocAttr]; exact rfl) ?_;refine ab (dR fun K hK => ?_);(repeat refine eV ?_);refine aa (hK _ (wK [1, 6, 7, 9, 10] ?_));clear hK K;refine ae ?_;refine au (X := Nat) (fun t => t ≤ T) (fun t => [(9, .c (.p (.int .i64 t))), (10, .c (.p (.int .i64 (msE N t : Nat))))]) (fun t => [((6, 0), ⟨none, [.sl true 3 1 ((knL N t).map iC)]⟩), ((7, 0), ⟨none, [.sl true 4 1 (bL (frE N t) N.ends.length)]⟩)]) (fun t => T - t) 0 (Nat.zero_le _) (by first | rfl | (simp only [ac, pZ, simprocAttr, Int.natCast_zero, hk0, hm0] <;> rfl)) ?_;rintro t ht;intro E hE;simp only [ac, pZ, simprocAttr] at hE;subst hE;have hkl := jz hi t;have hkl1 := jz hi (t + 1);have hks : knL N (t + 1) = i8 N (knL N t) (frE N t) N.ends.length := rfl;have hms : msE N (t + 1) = msE N t + sE N (frE N t) N.ends.length := rfl;have hmb := Ke (N := N) (show N.ends.length ≤ 40 by omega) hdg t
   have hsz : sE N (frE N t) N.ends.length = 0 ↔ t = T := by
    constructor
    ·intro h
     rcases Nat.lt_or_ge t T with h2 | h2
     ·exact absurd h (hlt t h2)
     ·omega
    ·intro h; rw [h]; exact hz
   have hfs : ∀ v, frE N (t + 1) v = decide (gi (knL N (t + 1)) v < gi (knL N t) v) := fun v => uq t v;have hTt : t = T → knL N t = knL N T ∧ msE N t = msE N T := fun h => by rw [h]; exact ⟨rfl, rfl⟩
   obtain ⟨A, hA⟩ : ∃ A, A = knL N t := ⟨_, rfl⟩;obtain ⟨A1, hA1⟩ : ∃ A1, A1 = knL N (t + 1) := ⟨_, rfl⟩;obtain ⟨fr, hfr⟩ : ∃ fr, fr = frE N t := ⟨_, rfl⟩;obtain ⟨M, hM⟩ : ∃ M, M = msE N t := ⟨_, rfl⟩;rw [← hA] at hkl hks hfs hTt ⊢;rw [← hA1] at hkl1 hks hfs;rw [← hfr] at hks hms hsz ⊢;rw [← hM] at hms hmb hTt ⊢;refine ae ?_;refine ab (dR fun K hK => ?_);(repeat refine eV ?_);refine aa (hK _ (wK [1, 6, 7, 9, 10, 11] ?_));clear hK K;refine ab (dR fun K hK => ?_);(repeat refine eV ?_);refine cL rfl ⟨rfl, _, rfl⟩ (by omega) (by first | exact W7) (M1 true 3 A (by omega)) ?_;rintro _ rfl;(repeat refine eV ?_);refine aa (hK _ (wK [1, 6, 7, 9, 10, 11, 12] ?_));clear hK K;refine ab ?_;refine ab (dR fun K hK => ?_);(repeat refine eV ?_);refine aa (hK _ (wK [1, 6, 7, 9, 10, 11, 12, 50, 51, 52] ?_));clear hK K;have hs0 : sE N fr 0 = 0 := rfl;have hr0 : i8 N A fr 0 = A := rfl;refine ae ?_;refine au (X := Nat) (fun v => v ≤ N.ends.length) (fun v => [(11, .c (.p (.int .i64 (sE N fr v : Nat)))), (52, .c (.p (.int .i64 v)))]) (fun v => [((12, 0), ⟨none, [.sl true 3 1 ((i8 N A fr v).map iC)]⟩)]) (fun v => N.ends.length - v) 0 (Nat.zero_le _) (by first | rfl | (simp only [ac, pZ, simprocAttr, Int.natCast_zero, hs0, hr0] <;> rfl)) ?_;rintro v hv;intro E hE;simp only [ac, pZ, simprocAttr] at hE;subst hE;have hqb := Re (N := N) fr hdg v;have hrl := o9 (N := N) A fr v
   have hrt : i8 N A fr (v + 1) = if fr v = true then rlx N (gi A v) v (gl N.ends v).length (i8 N A fr v) else i8 N A fr v := rfl
   have hst : sE N fr (v + 1) = if fr v = true then sE N fr v + (gl N.ends v).length else sE N fr v := rfl
   obtain ⟨S0, hS0⟩ : ∃ S0, S0 = sE N fr v := ⟨_, rfl⟩;obtain ⟨X0, hX0⟩ : ∃ X0, X0 = i8 N A fr v := ⟨_, rfl⟩;rw [← hS0] at hqb hst ⊢;rw [← hX0] at hrl hrt ⊢;refine ab (dR fun K hK => ?_);(repeat refine eV ?_);refine aa (hK _ (wK [1, 6, 7, 9, 10, 11, 12, 50, 51, 52, 53] ?_));clear hK K;refine ab (dI (fun hb => ?_) (fun hb => ?_))
   ·have hv1 : v < N.ends.length := by simpa using hb
    have hdv := hdg v;have hX00 : rlx N (gi A v) v 0 X0 = X0 := rfl;refine ah ?_;show DW _ _ _ _ _;refine ab (ae ?_);refine ab (dR fun K hK => ?_);(repeat refine eV ?_);refine aa (hK _ (wK [1, 6, 7, 9, 10, 11, 12, 13, 14, 50, 51, 52] ?_));clear hK K;refine ab ?_;have dX := And.intro dX (@Int.toNat_natCast);refine ab (dR fun K hK => ?_);(repeat refine eV ?_);refine aa (hK _ (wK [1, 6, 7, 9, 10, 11, 12, 13, 14, 50, 51, 52, 61] ?_));clear hK K;obtain h1 | h1 := Bool.eq_false_or_eq_true (fr v)
    ·rw [if_pos h1] at hrt hst;rw [h1];refine dI ?_ ?_<;>intro hb
     ·cases hb
     ·refine ah ?_;show DW _ _ _ _ _;have dX := And.intro dX (@Int.toNat_natCast);refine ab (dR fun K hK => ?_);(repeat refine eV ?_);refine aa (hK _ (wK [1, 6, 7, 9, 10, 11, 12, 13, 50, 51, 52, 62, 63, 64] ?_));clear hK K;refine ae ?_;refine au (X := Nat) (fun j => j ≤ (gl N.ends v).length) (fun j => [(11, .c (.p (.int .i64 (S0 + j : Nat)))), (64, .c (.p (.int .i64 j)))]) (fun j => [((12, 0), ⟨none, [.sl true 3 1 ((rlx N (gi A v) v j X0).map iC)]⟩)]) (fun j => (gl N.ends v).length - j) 0 (Nat.zero_le _) (by first | rfl | (simp only [ac, pZ, simprocAttr, Int.natCast_zero] <;> rfl)) ?_;rintro j hj;intro E hE;simp only [ac, pZ, simprocAttr] at hE;subst hE;have hXl := qf (N := N) (gi A v) v j X0;have hXs : rlx N (gi A v) v (j + 1) X0 = (rlx N (gi A v) v j X0).set (nd N v j) (mnI (gi (rlx N (gi A v) v j X0) (nd N v j)) (gi A v)) := rfl;obtain ⟨X, hX⟩ : ∃ X, X = rlx N (gi A v) v j X0 := ⟨_, rfl⟩;rw [← hX] at hXl hXs ⊢;refine ab (dR fun K hK => ?_);(repeat refine eV ?_);refine aa (hK _ (wK [1, 6, 7, 9, 10, 11, 12, 13, 50, 51, 52, 62, 63, 64, 65] ?_));clear hK K;refine ab (dI (fun hb => ?_) (fun hb => ?_))
      ·have hj1 : j < (gl N.ends v).length := by simpa using hb
       obtain ⟨q1, q2, q3, q4, q5⟩ := ej hs hv1 hj1;refine ah ?_;show DW _ _ _ _ _;refine ab (ae ?_);have dX := And.intro dX (@Int.toNat_natCast);refine ab (dR fun K hK => ?_);(repeat refine eV ?_);have dK := @q5;refine aa (hK _ (az [1, 6, 7, 9, 10, 11, 12, 13, 16, 50, 51, 52, 62, 63, 64] ?_));clear hK K;refine ab (dR fun K hK => ?_);(repeat refine eV ?_);have dK := @bp;refine aa (hK _ (az [1, 6, 7, 9, 10, 11, 12, 13, 16, 50, 51, 52, 62, 63, 64] ?_));clear hK K;have dX := And.intro dX (And.intro @elsSt21.eq_def (And.intro @q5 (And.intro @hXl (And.intro @hkl @Int.toNat_natCast))));refine ec elsSt21 (fun z r => match z with | 12 => r = [.c (.p (.int .i64 (mnI (gi X (nd N v j)) (gi A v))))] | _ => True) fun K hK => ?_;(repeat refine dV ?_);have dX := And.intro dX (And.intro @elsSt21.eq_def (And.intro @q5 (And.intro @hXl (And.intro @hkl @Int.toNat_natCast))));refine dcF rfl ⟨rfl, _, rfl⟩ (by omega) (by first | exact jbf) (Pg (gi X (nd N v j)) (gi A v)) ?_;rintro _ rfl;(repeat refine dV ?_);have dK := And.intro @q5 (And.intro @se (Eq.symm hXs));refine aw (hK _ (az [1, 6, 7, 9, 10, 11, 12, 13, 50, 51, 52, 62, 63, 64] ?_));clear hK K;refine dR fun K hK => ?_;(repeat refine eV ?_);have dK := @bp;refine aa (hK _ ?_);clear hK K;show ∃ x, _ ∧ _ ∧ Weak _ _;refine ⟨j + 1, ?_, ?_, a6 [1, 6, 7, 9, 10, 11, 12, 13, 50, 51, 52, 62, 63, 64]⟩
       ·omega
       ·omega
      ·have hj2 : j = (gl N.ends v).length := by
        have : ¬ j < (gl N.ends v).length := by simpa using hb
        omega
       have hXe : X = i8 N A fr (v + 1) := by rw [hX, hrt, hj2]
       have hSe : S0 + j = sE N fr (v + 1) := by rw [hst, hj2]
       rw [hXe, hSe];refine an ?_;refine ba [1, 6, 7, 9, 10, 11, 12, 50, 51, 52] (by simp only [ac, pZ, simprocAttr]; exact rfl) ?_;refine dR fun K hK => ?_;(repeat refine eV ?_);have dK := @bp;refine aa (hK _ ?_);clear hK K;show ∃ x, _ ∧ _ ∧ Weak _ _;refine ⟨v + 1, ?_, ?_, a6 [1, 6, 7, 9, 10, 11, 12, 50, 51, 52]⟩
       ·omega
       ·omega
    ·rw [if_neg (by rw [h1]; decide)] at hrt hst;rw [h1];refine dI ?_ ?_<;>intro hb
     ·rw [← hrt, ← hst];refine w9 ?_;refine ba [1, 6, 7, 9, 10, 11, 12, 50, 51, 52] (by simp only [ac, pZ, simprocAttr]; exact rfl) ?_;refine dR fun K hK => ?_;(repeat refine eV ?_);have dK := @bp;refine aa (hK _ ?_);clear hK K;show ∃ x, _ ∧ _ ∧ Weak _ _;refine ⟨v + 1, ?_, ?_, a6 [1, 6, 7, 9, 10, 11, 12, 50, 51, 52]⟩
      ·omega
      ·omega
     ·cases hb
   ·have hv2 : v = N.ends.length := by
     have : ¬ v < N.ends.length := by simpa using hb
     omega
    have hXe : X0 = A1 := by rw [hX0, hks, hv2]
    have hSe : S0 = sE N fr N.ends.length := by rw [hS0, hv2]
    rw [hXe];rw [← hSe] at hms hsz;refine an ?_;refine ba [1, 6, 7, 9, 10, 11, 12] (by simp only [ac, pZ, simprocAttr]; exact rfl) ?_
    by_cases htT : t = T
    ·have hS1 : ((S0 : Int) == 0) = true := by rw [beq_iff_eq]; have := hsz.2 htT; omega
     obtain ⟨e1, e2⟩ := hTt htT;refine ab ?_;have dX := And.intro dX (@hS1);refine ab (dR fun K hK => ?_);(repeat refine eV ?_);have dK := @hS1;refine aa (hK _ (az [1, 6, 7, 9, 10, 11, 12, 87] ?_));clear hK K;refine dI ?_ ?_<;>intro hb
     ·have dX := And.intro dX (@b8);refine ab (dR fun K hK => ?_);(repeat refine eV ?_);have dK := @b8;refine aa (hK _ (az [2, 3, 4, 5] ?_));clear hK K;exact aj (am Tryz.results7 (.four (.plain _ _ rfl) (.plain _ _ rfl) (.plain _ _ rfl) (.plain _ _ rfl)) (by decide) (by rw [e1, e2, htT]))
     ·cases hb
    ·have hS1 : ((S0 : Int) == 0) = false := by
      rw [beq_eq_false_iff_ne];intro h;exact htT (hsz.1 (by omega))
     have htT2 : t < T := by omega
     have hms2 : ((M : Int) + (S0 : Int)) = ((msE N (t + 1) : Nat) : Int) := by omega
     refine ab ?_;have dX := And.intro dX (@hS1);refine ab (dR fun K hK => ?_);(repeat refine eV ?_);have dK := @hS1;refine aa (hK _ (az [1, 6, 7, 9, 10, 11, 12, 87] ?_));clear hK K;refine dI ?_ ?_<;>intro hb
     ·cases hb
     ·refine ah ?_;show DW _ _ _ _ _;refine ab (dR fun K hK => ?_);(repeat refine eV ?_);have dK := @bp;refine aa (hK _ (az [1, 6, 7, 9, 10, 11, 12] ?_));clear hK K;refine ab (dR fun K hK => ?_);(repeat refine eV ?_);have dK := @hms2;refine aa (hK _ (az [1, 6, 7, 9, 10, 12] ?_));clear hK K;refine ab ?_;refine ab (dR fun K hK => ?_);(repeat refine eV ?_);refine aa (hK _ (wK [1, 6, 7, 9, 10, 12, 99, 100] ?_));clear hK K;have hx0 := Dp fr (frE N (t + 1)) N.ends.length;have hx1 := Hr fr (frE N (t + 1)) N.ends.length;refine ae ?_;refine au (X := Nat) (fun v => v ≤ N.ends.length) (fun v => [(100, .c (.p (.int .i64 v)))]) (fun v => [((7, 0), ⟨none, [.sl true 4 1 (bL (wn fr (frE N (t + 1)) v) N.ends.length)]⟩)]) (fun v => N.ends.length - v) 0 (Nat.zero_le _) (by first | rfl | (simp only [ac, pZ, simprocAttr, Int.natCast_zero, hx0] <;> rfl)) ?_;rintro v hv;intro E hE;simp only [ac, pZ, simprocAttr] at hE;subst hE;have hms0 := Dq fr (frE N (t + 1)) v;rw [hfs] at hms0;obtain ⟨c0, hc0⟩ : ∃ c0, c0 = wn fr (frE N (t + 1)) v := ⟨_, rfl⟩;rw [← hc0] at hms0 ⊢;refine ab (dR fun K hK => ?_);(repeat refine eV ?_);refine aa (hK _ (wK [1, 6, 7, 9, 10, 12, 99, 100, 101] ?_));clear hK K;refine ab (dI (fun hb => ?_) (fun hb => ?_))
      ·have hv1 : v < N.ends.length := by simpa using hb
       refine ah ?_;show DW _ _ _ _ _;refine ab (ae ?_);refine ab (dR fun K hK => ?_);(repeat refine eV ?_);refine aa (hK _ (wK [1, 6, 7, 9, 10, 12, 17, 99, 100] ?_));clear hK K;have dX := And.intro dX (And.intro @elsSt31.eq_def (And.intro @hkl (And.intro @hkl1 @Int.toNat_natCast)));refine ec elsSt31 (fun j r => match j with | _ => True) fun K hK => ?_;(repeat refine dV ?_);have dK := And.intro @ja1 @hms0;refine aw (hK _ (az [1, 6, 7, 9, 10, 12, 99, 100] ?_));clear hK K;refine dR fun K hK => ?_;(repeat refine eV ?_);have dK := @bp;refine aa (hK _ ?_);clear hK K;show ∃ x, _ ∧ _ ∧ Weak _ _;refine ⟨v + 1, ?_, ?_, a6 [1, 6, 7, 9, 10, 12, 99, 100]⟩
       ·omega
       ·omega
      ·have hv2 : v = N.ends.length := by
        have : ¬ v < N.ends.length := by simpa using hb
        omega
       rw [hc0, hv2, hx1, hA1];refine an ?_;refine ba [1, 7, 9, 10, 12] (by simp only [ac, pZ, simprocAttr]; exact rfl) ?_;refine dR fun K hK => ?_;(repeat refine eV ?_);have dK := @bp;refine aa (hK _ ?_);clear hK K;show ∃ x, _ ∧ _ ∧ Weak _ _;refine ⟨t + 1, ?_, ?_, a6 [1, 6, 7, 9, 10]⟩
       ·omega
       ·omega
end
section
set_option maxHeartbeats 0
set_option maxRecDepth 8000
open Go Go.RowKit
def zBLd61 := PLift.up (And.intro ap (And.intro jat (And.intro xk (And.intro b4 (And.intro jau (And.intro @bt (And.intro bl (And.intro bw (And.intro a7 (And.intro @netO.eq_1 (And.intro @netZ.eq_1 (And.intro @if_pos.{1} (And.intro @bi @trivial)))))))))))))
theorem Bv : type_of% zBLd61.down := zBLd61.down
theorem yv (f : NF) (N : Net) (hi : N.ids.length ≤ 2097152) (h : (bb N && !((N.ids.length : Int) == 0) && em N 0) = false) : DCalls Tryz.prog 6 [.agg (br f N)] (fun r => r = [.c (.p (.int .i64 0)), .c (.p (.int .i64 0)), .c (.p (.int .i64 0)), .c (.p (.bool false))]) := by
 refine ao Tryz.func6 rfl (by rw [Tryz.ntmps6]; simp) fun w0 => ?_;rw [Tryz.ntmps6];have dX := Bv;simp only [b7, bf, Arg.av, br, ch, ints, ends];refine ab (dR fun K hK => ?_);(repeat refine eV ?_);refine aa (hK _ (wK [1] ?_));clear hK K;refine ab ?_;refine ab (dR fun K hK => ?_);(repeat refine eV ?_);refine cL rfl ⟨rfl, _, rfl⟩ (by omega) (by first | exact jw | exact pg) (eg ⟨false, f.t1, f.o2, f.t2, false, f.t3, false, f.t4⟩ N hi) ?_;rintro _ rfl;(repeat refine eV ?_);obtain hg | hg := Bool.eq_false_or_eq_true (bb N)
 ·have hn := dh hg;obtain hi0 | hi0 := Bool.eq_false_or_eq_true ((N.ids.length : Int) == 0)
  ·have dX := And.intro dX (And.intro @hg @hi0);(repeat refine eV ?_);have dX := And.intro dX (And.intro @hg @hi0);refine csF ?_;(repeat refine eV ?_);have dX := And.intro dX (And.intro @hg @hi0);(repeat refine eV ?_);have dK := And.intro @hg @hi0;refine aa (hK _ (az [1, 29] ?_));clear hK K;refine dI ?_ ?_<;>intro hb
   ·refine ab (dR fun K hK => ?_);(repeat refine eV ?_);refine aa (hK _ (wK [2, 3, 4, 5] ?_));clear hK K;exact aj (am Tryz.results6 (.four (.plain _ _ rfl) (.plain _ _ rfl) (.plain _ _ rfl) (.plain _ _ rfl)) (by decide) rfl)
   ·cases hb
  ·have hc : em N 0 = false := by
    have h2 : ((N.ids.length : Int) == 0) = false := hi0;rw [hg, h2] at h; exact h
   have dX := And.intro dX (And.intro @hg @hi0);(repeat refine eV ?_);have dX := And.intro dX (And.intro @hg @hi0);refine cgF rfl rfl ⟨rfl, _, rfl⟩ (by omega) (by first | exact jw | exact pg) (fu ⟨false, f.t1, f.o2, f.t2, false, f.t3, false, f.t4⟩ N hg (show 0 < N.ends.length by omega)) ?_;rintro _ rfl;(repeat refine eV ?_);have dX := And.intro dX (And.intro @hg (And.intro @hi0 @hc));(repeat refine eV ?_);have dK := And.intro @hg (And.intro @hi0 @hc);refine aa (hK _ (az [1, 29] ?_));clear hK K;refine dI ?_ ?_<;>intro hb
   ·refine ab (dR fun K hK => ?_);(repeat refine eV ?_);refine aa (hK _ (wK [2, 3, 4, 5] ?_));clear hK K;exact aj (am Tryz.results6 (.four (.plain _ _ rfl) (.plain _ _ rfl) (.plain _ _ rfl) (.plain _ _ rfl)) (by decide) rfl)
   ·cases hb
 ·have dX := And.intro dX (@hg);(repeat refine eV ?_);have dX := And.intro dX (@hg);refine csF ?_;(repeat refine eV ?_);have dX := And.intro dX (@hg);(repeat refine eV ?_);have dK := @hg;refine aa (hK _ (az [1, 29] ?_));clear hK K;refine dI ?_ ?_<;>intro hb
  ·refine ab (dR fun K hK => ?_);(repeat refine eV ?_);refine aa (hK _ (wK [2, 3, 4, 5] ?_));clear hK K;exact aj (am Tryz.results6 (.four (.plain _ _ rfl) (.plain _ _ rfl) (.plain _ _ rfl) (.plain _ _ rfl)) (by decide) rfl)
  ·cases hb
theorem yu (f : NF) (N : Net) (h : (bb N && !((N.ids.length : Int) == 0) && em N 0) = false) : DCalls Tryz.prog 7 [.agg (br f N)] (fun r => r = [.c (.p (.int .i64 0)), .c (.p (.int .i64 0)), .c (.p (.int .i64 0)), .c (.p (.bool false))]) := by
 refine ao Tryz.func7 rfl (by rw [Tryz.ntmps7]; simp) fun w0 => ?_;rw [Tryz.ntmps7];have dX := Bv;simp only [b7, bf, Arg.av, br, ch, ints, ends];refine ab (dR fun K hK => ?_);(repeat refine eV ?_);refine aa (hK _ (wK [1] ?_));clear hK K;refine ab ?_;refine ab (dR fun K hK => ?_);(repeat refine eV ?_);refine cL rfl ⟨rfl, _, rfl⟩ (by omega) (by first | exact xz | exact xy) (uf ⟨false, f.t1, f.o2, f.t2, false, f.t3, false, f.t4⟩ N) ?_;rintro _ rfl;(repeat refine eV ?_);obtain hg | hg := Bool.eq_false_or_eq_true (bb N)
 ·have hn := dh hg;obtain hi0 | hi0 := Bool.eq_false_or_eq_true ((N.ids.length : Int) == 0)
  ·have dX := And.intro dX (And.intro @hg @hi0);(repeat refine eV ?_);have dX := And.intro dX (And.intro @hg @hi0);refine csF ?_;(repeat refine eV ?_);have dX := And.intro dX (And.intro @hg @hi0);(repeat refine eV ?_);have dK := And.intro @hg @hi0;refine aa (hK _ (az [1, 31] ?_));clear hK K;refine dI ?_ ?_<;>intro hb
   ·refine ab (dR fun K hK => ?_);(repeat refine eV ?_);refine aa (hK _ (wK [2, 3, 4, 5] ?_));clear hK K;exact aj (am Tryz.results7 (.four (.plain _ _ rfl) (.plain _ _ rfl) (.plain _ _ rfl) (.plain _ _ rfl)) (by decide) rfl)
   ·cases hb
  ·have hc : em N 0 = false := by
    have h2 : ((N.ids.length : Int) == 0) = false := hi0;rw [hg, h2] at h; exact h
   have dX := And.intro dX (And.intro @hg @hi0);(repeat refine eV ?_);have dX := And.intro dX (And.intro @hg @hi0);refine cgF rfl rfl ⟨rfl, _, rfl⟩ (by omega) (by first | exact xz | exact xy) (jl ⟨false, f.t1, f.o2, f.t2, false, f.t3, false, f.t4⟩ N hg) ?_;rintro _ rfl;(repeat refine eV ?_);have dX := And.intro dX (And.intro @hg (And.intro @hi0 @hc));(repeat refine eV ?_);have dK := And.intro @hg (And.intro @hi0 @hc);refine aa (hK _ (az [1, 31] ?_));clear hK K;refine dI ?_ ?_<;>intro hb
   ·refine ab (dR fun K hK => ?_);(repeat refine eV ?_);refine aa (hK _ (wK [2, 3, 4, 5] ?_));clear hK K;exact aj (am Tryz.results7 (.four (.plain _ _ rfl) (.plain _ _ rfl) (.plain _ _ rfl) (.plain _ _ rfl)) (by decide) rfl)
   ·cases hb
 ·have dX := And.intro dX (@hg);(repeat refine eV ?_);have dX := And.intro dX (@hg);refine csF ?_;(repeat refine eV ?_);have dX := And.intro dX (@hg);(repeat refine eV ?_);have dK := @hg;refine aa (hK _ (az [1, 31] ?_));clear hK K;refine dI ?_ ?_<;>intro hb
  ·refine ab (dR fun K hK => ?_);(repeat refine eV ?_);refine aa (hK _ (wK [2, 3, 4, 5] ?_));clear hK K;exact aj (am Tryz.results7 (.four (.plain _ _ rfl) (.plain _ _ rfl) (.plain _ _ rfl) (.plain _ _ rfl)) (by decide) rfl)
  ·cases hb
theorem Drawn.rng {m d : Nat} {N : Net} (h : Drawn m d N) (hm : m ≤ 1000) : ∀ v i, v < N.ends.length → i < (gl N.ends v).length → -1000 ≤ (gp (gl N.ends v) i).1 ∧ (gp (gl N.ends v) i).1 ≤ 1000 := fun v i hv hi => by
 obtain ⟨b, j, e, hb, -, -⟩ := h.sym v i hv hi;have e' : gp (gl N.ends v) i = ((b : Int), (j : Int)) := e;have := h.len;rw [e'];exact ⟨by show (-1000 : Int) ≤ (b : Int); omega, by show (b : Int) ≤ 1000; omega⟩
theorem vf (bs : List Int) (hby : dq bs) : dm Tryz.prog 5 [.c (gd bs)] Z4 := by
 refine qy (by simp [Arg.isIo]) Tryz.func5 rfl (by rw [Tryz.ntmps5]; simp) fun w0 => ?_;rw [Tryz.ntmps5];have dX := Bv;simp only [b7, bf, Arg.av, gd];refine ab (dR fun K hK => ?_);(repeat refine eV ?_);refine aa (hK _ (wK [0, 2] ?_));clear hK K;refine ab (dR fun K hK => ?_);(repeat refine eV ?_);refine aa (hK _ (wK [2, 3, 7] ?_));clear hK K;refine ab (dR fun K hK => ?_);(repeat refine eV ?_);refine o0 rfl ⟨rfl, _, rfl⟩ (by omega) (by first | exact Hv) (tw bs 0 0 9 _ _ rfl hby (Nat.zero_le 0) (by omega) (by omega) (by omega)) ?_;rintro _ ⟨p1, s1, _, rfl, hp1, N1, rfl, ht1⟩;refine ioF ?_;(repeat refine eV ?_);have dK := @netO.eq_1;refine aa (hK _ (az [2, 3, 4, 7] ?_));clear hK K;refine lb 4 [2, 3, 4, 7] (by simp only [ac, pZ, simprocAttr]; exact rfl) ?_;refine ab ?_;refine ab (dR fun K hK => ?_);(repeat refine eV ?_);refine ni rfl ⟨rfl, _, rfl⟩ (by omega) (by first | exact x7) (xt bs p1 s1 4 _ hby hp1 (by omega)) ?_;rintro _ ⟨p2, s2, _, rfl, hp2, b2, rfl⟩;refine ioF ?_;(repeat refine eV ?_);refine aa (hK _ (wK [2, 3, 4, 7, 11] ?_));clear hK K;refine dI ?_ ?_<;>intro hb
 ·refine ab (dR fun K hK => ?_);(repeat refine eV ?_);refine o0 rfl ⟨rfl, _, rfl⟩ (by omega) (by first | exact W8) (Ja bs p2 s2 8 _ _ rfl hby hp2 (by omega) (by omega) (by omega)) ?_;rintro _ ⟨p3, s3, _, rfl, hp3, N3, rfl, ht3⟩;refine ioF ?_;(repeat refine eV ?_);have dK := @netO.eq_1;refine aa (hK _ (az [2, 7] ?_));clear hK K;refine lb 2 [2, 7] (by simp only [ac, pZ, simprocAttr]; exact rfl) ?_;exact aj (dz Tryz.results5 (.one (.cell 2 _ _ _ _ rfl rfl ap rfl rfl rfl)) (by decide) ⟨N3, rfl, ht3⟩)
 ·refine ah ?_;show DW _ _ _ _ _;refine ab (dR fun K hK => ?_);(repeat refine eV ?_);refine o0 rfl ⟨rfl, _, rfl⟩ (by omega) (by first | exact Mw | exact Sf) (vj bs p2 s2 NFz N1 _ hby hp2 (by omega) (ht1.tame (by omega) (by omega)).small) ?_;rintro _ ⟨p4, s4, _, rfl, hp4, N4, rfl, ht4⟩;refine ioF ?_;(repeat refine eV ?_);have hd4 : Drawn 40 500 N4 := (ht1.mono (by omega) (by omega)).withIds ht4;refine Cb 17 (by simp only [ac, pZ, simprocAttr]; exact rfl) ?_;refine o0 rfl ⟨rfl, _, rfl⟩ (by omega) (by first | exact Mw | exact Sf) (Ho bs p4 s4 NFz N4 _ hby hp4 (by omega) hd4) ?_;rintro _ ⟨p5, s5, _, rfl, hp5, N5, rfl, ht5⟩;refine ioF ?_;(repeat refine eV ?_);have dK := @netO.eq_1;refine aa (hK _ (az [2, 7] ?_));clear hK K;refine lb 2 [2, 7] (by simp only [ac, pZ, simprocAttr]; exact rfl) ?_;exact aj (dz Tryz.results5 (.one (.cell 2 _ _ _ _ rfl rfl ap rfl rfl rfl)) (by decide) ⟨N5, rfl, ht5⟩)
theorem u7 (bs : List Int) (hby : dq bs) : dm Tryz.prog 35 [.c (gd bs)] Z4 := by
 refine qy (by simp [Arg.isIo]) Tryz.func35 rfl (by rw [Tryz.ntmps35]; simp) fun w0 => ?_;rw [Tryz.ntmps35];have dX := Bv;simp only [b7, bf, Arg.av, gd];refine ab (dR fun K hK => ?_);(repeat refine eV ?_);refine aa (hK _ (wK [0, 2] ?_));clear hK K;refine ab (dR fun K hK => ?_);(repeat refine eV ?_);refine aa (hK _ (wK [2, 3, 6] ?_));clear hK K;refine ab ?_;refine ab (dR fun K hK => ?_);(repeat refine eV ?_);refine ni rfl ⟨rfl, _, rfl⟩ (by omega) (by first | exact gk) (fw bs 0 0 4 _ hby (Nat.zero_le 0) (by omega)) ?_;rintro _ ⟨p1, s1, _, rfl, hp1, x1, rfl, hx1⟩;refine ioF ?_;(repeat refine eV ?_);refine aa (hK _ (wK [2, 3, 6, 8] ?_));clear hK K;refine ae ?_;refine ab (dR fun K hK => ?_);(repeat refine eV ?_);refine aa (hK _ (wK [2, 3, 6, 8, 9] ?_));clear hK K;refine dI ?_ ?_<;>intro hb
 ·refine ab (dR fun K hK => ?_);(repeat refine eV ?_);refine o0 rfl ⟨rfl, _, rfl⟩ (by omega) (by first | exact Sc | exact Mu) (Wv bs p1 s1 7 _ _ rfl hby hp1 (by omega) (by omega) (by omega)) ?_;rintro _ ⟨p2, s2, _, rfl, hp2, N2, rfl, ht2⟩;refine ioF ?_;(repeat refine eV ?_);refine Cb 12 (by simp only [ac, pZ, simprocAttr]; exact rfl) ?_;refine cL rfl ⟨rfl, _, rfl⟩ (by omega) (by first | exact Sc | exact Mu) (B3 NFz N2 (by have := ht2.len; omega) ht2.ins (fun v _ => by have := ht2.deg v; unfold dg at this; omega) (ht2.rng (by omega))) ?_;rintro _ rfl;(repeat refine eV ?_);have dK := @netO.eq_1;refine aa (hK _ (az [2, 6] ?_));clear hK K;refine lb 2 [2, 6] (by simp only [ac, pZ, simprocAttr]; exact rfl) ?_;exact aj (dz Tryz.results35 (.one (.cell 2 _ _ _ _ rfl rfl ap rfl rfl rfl)) (by decide) ⟨nf N2 N2.ends.length, rfl, Gq (ht2.tame (by omega) (by omega)) (by have := ht2.len; omega)⟩)
 ·refine ab (dR fun K hK => ?_);(repeat refine eV ?_);refine aa (hK _ (wK [2, 3, 6, 14] ?_));clear hK K;refine dI ?_ ?_<;>intro hb
  ·refine ab (dR fun K hK => ?_);(repeat refine eV ?_);refine o0 rfl ⟨rfl, _, rfl⟩ (by omega) (by first | exact Dr | exact Ht) (E5 bs p1 s1 5 _ _ rfl hby hp1 (by omega) (by omega) (by omega)) ?_;rintro _ ⟨p3, s3, _, rfl, hp3, N3, rfl, ht3⟩;refine ioF ?_;(repeat refine eV ?_);refine o0 rfl ⟨rfl, _, rfl⟩ (by omega) (by first | exact Dr | exact Ht) (E5 bs p3 s3 6 _ _ rfl hby hp3 (by omega) (by omega) (by omega)) ?_;rintro _ ⟨p4, s4, _, rfl, hp4, N4, rfl, ht4⟩;refine ioF ?_;(repeat refine eV ?_);refine cL rfl ⟨rfl, _, rfl⟩ (by omega) (by first | exact Dr | exact Ht) (Do N3 N4 (ht3.small (by omega) (by omega)) (ht4.small (by omega) (by omega)) ht4.sym) ?_;rintro _ rfl;(repeat refine eV ?_);have dK := @netO.eq_1;refine aa (hK _ (az [2, 6] ?_));clear hK K;refine lb 2 [2, 6] (by simp only [ac, pZ, simprocAttr]; exact rfl) ?_;exact aj (dz Tryz.results35 (.one (.cell 2 _ _ _ _ rfl rfl ap rfl rfl rfl)) (by decide) ⟨l6 N3 N4, rfl, (ht3.union ht4).tame (by omega) (by omega)⟩)
  ·refine ah ?_;show DW _ _ _ _ _;refine ab (dR fun K hK => ?_);(repeat refine eV ?_);refine o0 rfl ⟨rfl, _, rfl⟩ (by omega) (by first | exact W8) (Ja bs p1 s1 9 _ _ rfl hby hp1 (by omega) (by omega) (by omega)) ?_;rintro _ ⟨p5, s5, _, rfl, hp5, N5, rfl, ht5⟩;refine ioF ?_;(repeat refine eV ?_);have dK := @netO.eq_1;refine aa (hK _ (az [2, 6] ?_));clear hK K;refine lb 2 [2, 6] (by simp only [ac, pZ, simprocAttr]; exact rfl) ?_;exact aj (dz Tryz.results35 (.one (.cell 2 _ _ _ _ rfl rfl ap rfl rfl rfl)) (by decide) ⟨N5, rfl, ht5⟩)
theorem l0 (bs : List Int) (hby : dq bs) : dm Tryz.prog 10 [.c (gd bs)] Z4 := by
 refine qy (by simp [Arg.isIo]) Tryz.func10 rfl (by rw [Tryz.ntmps10]; simp) fun w0 => ?_;rw [Tryz.ntmps10];have dX := Bv;simp only [b7, bf, Arg.av, gd];refine ab (dR fun K hK => ?_);(repeat refine eV ?_);refine aa (hK _ (wK [0, 2] ?_));clear hK K;refine ab (dR fun K hK => ?_);(repeat refine eV ?_);refine aa (hK _ (wK [0, 2, 3, 6] ?_));clear hK K;refine ab ?_;refine ab (dR fun K hK => ?_);(repeat refine eV ?_);refine ni rfl ⟨rfl, _, rfl⟩ (by omega) (by first | exact x7) (xt bs 0 0 3 _ hby (Nat.zero_le 0) (by omega)) ?_;rintro _ ⟨p1, s1, _, rfl, hp1, b1, rfl⟩;refine ioF ?_;(repeat refine eV ?_);refine aa (hK _ (wK [0, 2, 3, 6, 8] ?_));clear hK K;refine dI ?_ ?_<;>intro hb
 ·refine ab (dR fun K hK => ?_);(repeat refine eV ?_);refine o0 rfl ⟨rfl, _, rfl⟩ (by omega) (by first | exact Hv | exact Mu) (tw bs p1 s1 6 _ _ rfl hby hp1 (by omega) (by omega) (by omega)) ?_;rintro _ ⟨p2, s2, _, rfl, hp2, N2, rfl, ht2⟩;refine ioF ?_;(repeat refine eV ?_);refine Cb 10 (by simp only [ac, pZ, simprocAttr]; exact rfl) ?_;refine cL rfl ⟨rfl, _, rfl⟩ (by omega) (by first | exact Hv | exact Mu) (B3 NFz N2 (by have := ht2.len; omega) ht2.ins (fun v _ => by have := ht2.deg v; unfold dg at this; omega) (ht2.rng (by omega))) ?_;rintro _ rfl;(repeat refine eV ?_);have dK := @netO.eq_1;refine aa (hK _ (az [2, 6] ?_));clear hK K;refine lb 2 [2, 6] (by simp only [ac, pZ, simprocAttr]; exact rfl) ?_;exact aj (dz Tryz.results10 (.one (.cell 2 _ _ _ _ rfl rfl ap rfl rfl rfl)) (by decide) ⟨nf N2 N2.ends.length, rfl, Gq (ht2.tame (by omega) (by omega)) (by have := ht2.len; omega)⟩)
 ·refine ah ?_;show DW _ _ _ _ _;refine ab (dR fun K hK => ?_);(repeat refine eV ?_);refine caF rfl ⟨rfl, _, rfl⟩ (by omega) (by first | exact jbe) (u7 bs hby) ?_;rintro _ ⟨N3, rfl, ht3⟩;(repeat refine eV ?_);refine aa (hK _ (wK [2, 6] ?_));clear hK K;exact aj (dz Tryz.results10 (.one (.cell 2 _ _ _ _ rfl rfl ap rfl rfl rfl)) (by decide) ⟨N3, rfl, ht3⟩)
theorem V2 (N : Net) (htm : Tame N) : ∃ (id : Int) (r k : Nat) (ok : Bool), DCalls Tryz.prog 6 [.agg (br NFz N)] (fun rr => rr = [.c (.p (.int .i64 id)), .c (.p (.int .i64 r)), .c (.p (.int .i64 k)), .c (.p (.bool ok))]) ∧ DCalls Tryz.prog 7 [.agg (br NFz N)] (fun rr => rr = [.c (.p (.int .i64 id)), .c (.p (.int .i64 r)), .c (.p (.int .i64 k)), .c (.p (.bool ok))]) ∧
 (ok = true → bb N = true ∧ em N 0 = true ∧ (∀ j, j < N.ids.length → id ≤ gi N.ids j) ∧ id ∈ N.ids ∧ (r : Int) ≤ mx0 (j4 N) + 1) := by
 have hli := htm.ids
 by_cases h : (bb N && !((N.ids.length : Int) == 0) && em N 0) = true
 ·have h9 := h;rw [Bool.and_eq_true, Bool.and_eq_true] at h;obtain ⟨⟨hg, hi0⟩, hc⟩ := h;have hi : N.ids.length = N.ends.length := S3 hg fun h => by rw [h] at hi0; cases hi0
  have hs : Sym N.ends := (f8 hg).sym;have hn := dh hg;obtain ⟨T, hT1, hT2, hz, hlt⟩ := Sj hg hi hc;have hend := M4 hs hi ((ik hs (show 0 < N.ends.length by omega)).1 hc) (by omega) hz;refine ⟨gi (knL N T) 0, T, msE N T, true, Cm NFz N T hg hi hc hT2 hz hlt, Cl NFz N T hg hi hc hT2 hz hlt, fun _ => ⟨hg, hc, fun j hj => hend.2 j (by omega), ?_, hT1⟩⟩;obtain ⟨u, hu, he⟩ := Kl hi (show 0 < N.ends.length by omega) T;have hu2 : u < N.ids.length := by omega
  rw [he, bn hu2];exact List.getElem_mem hu2
 ·have h := Bool.eq_false_iff.2 h;exact ⟨0, 0, 0, false, yv NFz N (by omega) h, yu NFz N h, fun h => by cases h⟩
theorem M5 (N : Net) (htm : Tame N) : ∃ (b ok : Bool) (d : Nat), DCalls Tryz.prog 11 [.agg (br NFz N)] (fun r => r = [.c (.p (.bool b)), .c (.p (.bool ok))]) ∧ DCalls Tryz.prog 12 [.agg (br NFz N)] (fun r => r = [.c (.p (.bool b)), .c (.p (.bool ok))]) ∧
 (ok = true → bb N = true ∧ em N 0 = true ∧ IsSd N d ∧ b = sw N d) := by
 have hli := htm.ids
 by_cases h : (bb N && em N 0) = true
 ·rw [Bool.and_eq_true] at h;obtain ⟨hg, hc⟩ := h;obtain ⟨d, hd⟩ := Rd (jb hg);exact ⟨_, true, d, lf NFz N d hg hc hd, Ck NFz N d hg hc hd, fun _ => ⟨hg, hc, hd, rfl⟩⟩
 ·have h := Bool.eq_false_iff.2 h;exact ⟨false, false, 0, jv NFz N (by omega) h, yt NFz N h, fun h => by cases h⟩
end
end Go.Proofs.YtfemnfpbdbbacaaGreat

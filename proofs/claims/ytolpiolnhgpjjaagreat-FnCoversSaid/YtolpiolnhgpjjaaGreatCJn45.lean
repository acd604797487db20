/- Parts of the proof. -/
import Derived.Test.YtolpiolnhgpjjaaGreatCJn44
import Derived.Test.YtolpiolnhgpjjaaGreatCJn37
import Derived.Test.YtolpiolnhgpjjaaGreatCJn22
import Derived.Test.YtolpiolnhgpjjaaGreatCJn39
import Derived.Test.YtolpiolnhgpjjaaGreatCJn26
import Derived.Test.YtolpiolnhgpjjaaGreatCJn28
import Derived.Test.YtolpiolnhgpjjaaGreatCJn21
import Derived.Test.YtolpiolnhgpjjaaGreatCShelf
import Derived.Test.YtolpiolnhgpjjaaGreatCJn31
import Derived.Test.YtolpiolnhgpjjaaGreatCDt
import Derived.Test.YtolpiolnhgpjjaaGreatCCb4
set_option linter.unusedSimpArgs false
set_option linter.unusedVariables false
namespace Go.Proofs.YtolpiolnhgpjjaaGreat
section
set_option maxHeartbeats 0
set_option maxRecDepth 8000
open Go Go.RowKit
def zBCb21 := PLift.up (And.intro ap (And.intro bh (And.intro ce (And.intro bl (And.intro az (And.intro be (And.intro @if_pos.{1} (And.intro @b7 (And.intro @dm (And.intro @dl (And.intro @bz (And.intro @bq (And.intro @bt (And.intro @qv (And.intro @qu @trivial)))))))))))))))
theorem Hl : type_of% zBCb21.down := zBCb21.down
theorem Nu (f : NF) (N : Net) (hn : N.ends.length ≤ 1000) : DCalls Tryz.prog 210 [.agg (bw f N)] (fun r => r = [.own false [.sl true 3 1 ((List.replicate N.ends.length (-1)).map iC)]]) := by
 refine ao Tryz.func210 rfl (by rw [Tryz.ntmps210]; simp) fun w0 => ?_;rw [Tryz.ntmps210];have dX := Hl;simp only [b4, bc, Arg.av, bw, b8, ints, ends];refine ab (dR fun K hK => ?_);(repeat refine eV ?_);refine aa (hK _ (wK [1] ?_));clear hK K;refine ab (dR fun K hK => ?_);(repeat refine eV ?_);refine cL rfl ⟨rfl, _, rfl⟩ (by omega) (by first | exact Tz) (M0 N.ends.length hn) ?_;rintro _ rfl;(repeat refine eV ?_);refine aa (hK _ (wK [2] ?_));clear hK K;exact ak (aq Tryz.results210 (.one (.own _ _ _ _ rfl rfl (own1 (bn _ _)))) (by decide) rfl)
def mtTakeSt3 : Nat → Stat
 | 0 => ⟨[9], [], [], [16], [], []⟩
 | 1 => ⟨[4], [(4, 1)], [], [17], [], []⟩
 | 2 => ⟨[17], [(4, 1)], [], [18], [], []⟩
 | 3 => ⟨[2], [], [], [19], [], []⟩
 | 4 => ⟨[18, 19], [], [], [20], [], []⟩
 | 5 => ⟨[20], [], [], [21], [], []⟩
 | 6 => ⟨[3], [], [], [22], [], []⟩
 | 7 => ⟨[21, 22], [], [], [23], [], []⟩
 | 8 => ⟨[23], [], [], [24], [], []⟩
 | 9 => ⟨[24], [], [], [25], [], []⟩
 | 10 => ⟨[4], [(4, 1)], [], [26], [], []⟩
 | 11 => ⟨[26], [(4, 1)], [], [27], [], []⟩
 | 12 => ⟨[2], [], [], [28], [], []⟩
 | 13 => ⟨[27, 28], [], [], [29], [], []⟩
 | 14 => ⟨[29], [], [], [30], [], []⟩
 | 15 => ⟨[3], [], [], [31], [], []⟩
 | 16 => ⟨[30, 31], [], [], [32], [], []⟩
 | 17 => ⟨[32], [], [], [33], [], []⟩
 | 18 => ⟨[33], [], [], [34], [], []⟩
 | 19 => ⟨[16, 25], [(9, 1)], [], [35], [], []⟩
 | 20 => ⟨[35, 34], [(9, 2)], [], [], [(9, 2)], []⟩
 | _ => ⟨[], [], [], [], [], []⟩
theorem Nq (f : NF) (N : Net) (o : Bool) (t : TypeId) (m : List Int) (v i w j : Nat) (hv : v < N.ends.length) (hi : i < (gl N.ends v).length) (he : gp (gl N.ends v) i = ((w : Int), (j : Int))) (hw : w < N.ends.length) (hml : m.length = N.ends.length) (hn : N.ends.length ≤ 1000) : DCalls Tryz.prog 212 [.agg (bw f N), .c (.sl o t 1 (m.map iC)), .c (.p (.int .i64 v)), .c (.p (.int .i64 i))] (fun r => r = [.own false [.sl true 3 1 (((m.set v (i : Int)).set w (j : Int)).map iC)]]) := by
 have he1 : (gp (gl N.ends v) i).1 = (w : Int) := by rw [he]
 have he2 : (gp (gl N.ends v) i).2 = (j : Int) := by rw [he]
 have hm1 : (m.set v (i : Int)).length = N.ends.length := by rw [List.length_set, hml]
 refine ao Tryz.func212 rfl (by rw [Tryz.ntmps212]; simp) fun w0 => ?_;rw [Tryz.ntmps212];have dX := Hl;simp only [b4, bc, Arg.av, bw, b8, ints, ends];refine ab (dR fun K hK => ?_);(repeat refine eV ?_);refine aa (hK _ (wK [1, 2, 3, 4] ?_));clear hK K;refine ab (dR fun K hK => ?_);(repeat refine eV ?_);refine cL rfl ⟨rfl, _, rfl⟩ (by omega) (by first | exact N0) (I8 o t m (by omega)) ?_;rintro _ rfl;(repeat refine eV ?_);refine aa (hK _ (wK [2, 3, 4, 9] ?_));clear hK K;have dX := And.intro dX (@Int.toNat_natCast);refine ab (dR fun K hK => ?_);(repeat refine eV ?_);have dK := And.intro @pn @Int.toNat_natCast;refine aa (hK _ (ay [2, 3, 4, 9] ?_));clear hK K;have dX := And.intro dX (And.intro @mtTakeSt3.eq_def (And.intro @Int.toNat_natCast (And.intro @he1 @he2)));refine ab (fg mtTakeSt3 (fun j r => True) fun K hK => ?_);(repeat refine dV ?_);have dK := And.intro @pn (And.intro @he1 @he2);refine bg (hK _ (ay [9] ?_));clear hK K;refine ab (dR fun K hK => ?_);(repeat refine eV ?_);refine aa (hK _ (wK [8] ?_));clear hK K;exact ak (aq Tryz.results212 (.one (.own _ _ _ _ rfl rfl (own1 (bn _ _)))) (by decide) rfl)
theorem zm (f : NF) (N : Net) (o : Bool) (t : TypeId) (sides : List Int) (sd : Nat → Bool) (hs : Sym N.ends) (hn : N.ends.length ≤ 1000) (hdg : ∀ v, (gl N.ends v).length ≤ 1000) (hsl : sides.length = N.ends.length) (hsd : ∀ v, v < N.ends.length → gi sides v = if sd v = true then 1 else 0) (h2 : ∀ v i, v < N.ends.length → i < dg N.ends v → sd (pt N.ends v i).1.toNat ≠ sd v) : DCalls Tryz.prog 183 [.agg (bw f N), .c (.sl o t 1 (sides.map iC))] (fun r => r = [.own false [.sl true 3 1 ((prM N.ends sd (rdM N.ends sd N.ends.length)).map iC)], .c (.p (.int .i64 (rdM N.ends sd N.ends.length : Nat)))]) := by
 refine ao Tryz.func183 rfl (by rw [Tryz.ntmps183]; simp) fun w0 => ?_;rw [Tryz.ntmps183];have dX := Hl;simp only [b4, bc, Arg.av, bw, b8, ints, ends];refine ab (dR fun K hK => ?_);(repeat refine eV ?_);refine aa (hK _ (wK [1, 2] ?_));clear hK K;refine ab (dR fun K hK => ?_);(repeat refine eV ?_);refine aa (hK _ (wK [1, 2, 6] ?_));clear hK K;refine ab ?_;refine ab (dR fun K hK => ?_);(repeat refine eV ?_);refine aa (hK _ (wK [1, 2, 6, 17, 18, 19] ?_));clear hK K;refine ae ?_;have hr0 : rdM N.ends sd 0 = 0 := rfl;refine ax (X := Nat) (fun v => v ≤ N.ends.length) (fun v => [(6, .c (.p (.int .i64 (rdM N.ends sd v : Nat)))), (19, .c (.p (.int .i64 v)))]) (fun v => []) (fun v => N.ends.length - v) 0 (Nat.zero_le _) (by first | rfl | (simp only [ac, pZ, simprocAttr, Int.natCast_zero, hr0] <;> rfl)) ?_;rintro v hv;intro E hE;simp only [ac, pZ, simprocAttr] at hE;subst hE;refine ab (dR fun K hK => ?_);(repeat refine eV ?_);refine aa (hK _ (wK [1, 2, 6, 17, 18, 19, 20] ?_));clear hK K;refine ab (dI (fun hb => ?_) (fun hb => ?_))
 ·have hv1 : v < N.ends.length := by simpa using hb
  have hs1 := hsd v hv1;have hrl := sy (ess := N.ends) (sd := sd) (B := 1000) hdg v;have hdv := hdg v
  have hrs : rdM N.ends sd (v + 1) = if sd v = false then max (rdM N.ends sd v) (dg N.ends v) else rdM N.ends sd v := rfl
  refine af ?_;show DW _ _ _ _ _;refine ab (ae ?_);refine ab (dR fun K hK => ?_);(repeat refine eV ?_);refine aa (hK _ (wK [1, 2, 6, 7, 8, 17, 18, 19] ?_));clear hK K;obtain h1 | h1 := Bool.eq_false_or_eq_true (sd v)
  ·have hc : (gi sides v == 0) = false := by rw [hs1, if_pos h1]; rfl
   have hm : rdM N.ends sd (v + 1) = rdM N.ends sd v := by rw [hrs, if_neg (by rw [h1]; decide)]
   have dX := And.intro dX (@hc);refine ab (dR fun K hK => ?_);(repeat refine eV ?_);have dK := @hc;refine aa (hK _ (ay [1, 2, 6, 8, 17, 18, 19, 28] ?_));clear hK K;refine dI ?_ ?_<;>intro hb
   ·cases hb
   ·refine af ?_;show DW _ _ _ _ _;refine dR fun K hK => ?_;(repeat refine eV ?_);have dK := And.intro @bi @hm;refine aa (hK _ ?_);clear hK K;show ∃ x, _ ∧ _ ∧ Weak _ _;refine ⟨v + 1, ?_, ?_, an [1, 2, 6, 17, 18, 19]⟩
    ·omega
    ·omega
  ·have hc : (gi sides v == 0) = true := by rw [hs1, if_neg (by rw [h1]; decide)]; rfl
   have hm : mst ((rdM N.ends sd v : Nat) : Int) ((gl N.ends v).length : Int) = ((rdM N.ends sd (v + 1) : Nat) : Int) := by
    rw [hrs, if_pos h1];unfold mst dg;split <;> omega
   have dX := And.intro dX (@hc);refine ab (dR fun K hK => ?_);(repeat refine eV ?_);have dK := @hc;refine aa (hK _ (ay [1, 2, 6, 8, 17, 18, 19, 28] ?_));clear hK K;refine dI ?_ ?_<;>intro hb
   ·refine dR fun K hK => ?_;(repeat refine eV ?_);refine cL rfl ⟨rfl, _, rfl⟩ (by omega) (by first | exact T6) (Om ((rdM N.ends sd v : Nat) : Int) ((gl N.ends v).length : Int)) ?_;rintro _ rfl;(repeat refine eV ?_);have dK := @hm;refine aa (hK _ (ay [1, 2, 6, 17, 18, 19] ?_));clear hK K;refine dR fun K hK => ?_;(repeat refine eV ?_);have dK := @bi;refine aa (hK _ ?_);clear hK K;show ∃ x, _ ∧ _ ∧ Weak _ _;refine ⟨v + 1, ?_, ?_, an [1, 2, 6, 17, 18, 19]⟩
    ·omega
    ·omega
   ·cases hb
 ·have hv2 : v = N.ends.length := by
   have : ¬ v < N.ends.length := by simpa using hb
   omega
  rw [hv2];have hRl := sy (ess := N.ends) (sd := sd) (B := 1000) hdg N.ends.length;obtain ⟨R, hR⟩ : ∃ R, R = rdM N.ends sd N.ends.length := ⟨_, rfl⟩;rw [← hR] at hRl ⊢;have hp0 : List.replicate N.ends.length (-1) = prM N.ends sd 0 := rfl;refine am ?_;refine wK [1, 2, 6] ?_;refine ab (dR fun K hK => ?_);(repeat refine eV ?_);refine cL rfl ⟨rfl, _, rfl⟩ (by omega) (by first | exact T1) (Nu ⟨false, f.t1, f.o2, f.t2, false, f.t3, false, f.t4⟩ N hn) ?_;rintro _ rfl;(repeat refine eV ?_);have dK := @hp0;refine aa (hK _ (ay [1, 2, 6, 9] ?_));clear hK K;refine ab ?_;refine ab (dR fun K hK => ?_);(repeat refine eV ?_);refine aa (hK _ (wK [1, 2, 6, 9, 10] ?_));clear hK K;refine ae ?_;refine ax (X := Nat) (fun r => r ≤ R) (fun r => [(10, .c (.p (.int .i64 r)))]) (fun r => [((9, 0), ⟨none, [.sl true 3 1 ((prM N.ends sd r).map iC)]⟩)]) (fun r => R - r) 0 (Nat.zero_le _) (by first | rfl | (simp only [ac, pZ, simprocAttr, Int.natCast_zero] <;> rfl)) ?_;rintro r hr;intro E hE;simp only [ac, pZ, simprocAttr] at hE;subst hE;have hml := vz (ess := N.ends) (sd := sd) r;have hms : prM N.ends sd (r + 1) = prT N.ends sd (prM N.ends sd r) r N.ends.length := rfl;obtain ⟨m, hm⟩ : ∃ m, m = prM N.ends sd r := ⟨_, rfl⟩;rw [← hm] at hml hms ⊢;refine ab ?_;refine ab (dR fun K hK => ?_);(repeat refine eV ?_);refine aa (hK _ (wK [1, 2, 6, 9, 10, 38] ?_));clear hK K;refine dI ?_ ?_<;>intro hb
  ·have hr1 : r < R := by simpa using hb
   have ht0 : m = prT N.ends sd m r 0 := rfl;refine af ?_;show DW _ _ _ _ _;refine ab (ae ?_);refine ab (dR fun K hK => ?_);(repeat refine eV ?_);refine cL rfl ⟨rfl, _, rfl⟩ (by omega) (by first | exact N0) (I8 true 3 m (by omega)) ?_;rintro _ rfl;(repeat refine eV ?_);refine aa (hK _ (wK [1, 2, 6, 9, 10, 11] ?_));clear hK K;refine yr 11 [1, 2, 6, 9, 10, 11] rfl rfl (by simp only [ac, pZ, simprocAttr, D2, Ak, qz, qy, k9]; exact rfl) ?_;refine ab (dR fun K hK => ?_);(repeat refine eV ?_);refine aa (hK _ (wK [1, 2, 6, 9, 10, 11, 44, 45, 46] ?_));clear hK K;refine ae ?_;refine ax (X := Nat) (fun w => w ≤ N.ends.length) (fun w => [(46, .c (.p (.int .i64 w)))]) (fun w => [((9, 0), ⟨none, [.sl true 3 1 ((prT N.ends sd m r w).map iC)]⟩)]) (fun w => N.ends.length - w) 0 (Nat.zero_le _) (by first | rfl | (simp only [ac, pZ, simprocAttr, Int.natCast_zero] <;> rfl)) ?_;rintro w hw;intro E hE;simp only [ac, pZ, simprocAttr] at hE;subst hE;have hTl : (prT N.ends sd m r w).length = N.ends.length := by rw [l5, hml]
   refine ab (dR fun K hK => ?_);(repeat refine eV ?_);refine aa (hK _ (wK [1, 2, 6, 9, 10, 11, 44, 45, 46, 47] ?_));clear hK K;refine ab (dI (fun hb => ?_) (fun hb => ?_))
   ·have hw1 : w < N.ends.length := by simpa using hb
    have hs1 := hsd w hw1;have hdw := hdg w;refine af ?_;show DW _ _ _ _ _;refine ab (ae ?_);refine ab (dR fun K hK => ?_);(repeat refine eV ?_);refine aa (hK _ (wK [1, 2, 6, 9, 10, 11, 12, 13, 44, 45, 46] ?_));clear hK K
    by_cases hgo : sd w = true ∧ gi m w < 0
    ·obtain ⟨h1, h3⟩ := hgo;have hc : (gi sides w == 0) = false := by rw [hs1, if_pos h1]; rfl
     have hc2 : decide (gi m w ≥ 0) = false := decide_eq_false (by omega);have hend := Rc (ess := N.ends) (r := r) h1 h3;have hat := fun j (hj : j ≤ dg N.ends w) => Tv (r := r) hs hml h2 hw1 h1 h3 hj;have hmz := Nr (ess := N.ends) (m := m) (r := r) w (prT N.ends sd m r w);have hmjl := Rb (ess := N.ends) (m := m) (r := r) w (prT N.ends sd m r w);have hstT : ∀ j, tkJ N.ends m r w j = false → gi m (pt N.ends w j).1.toNat < 0 → (pt N.ends w j).2 = (r : Int) → _ := fun j a b c => Ns (T := prT N.ends sd m r w) a b c;have hstP : ∀ j, (tkJ N.ends m r w j = true ∨ ¬ gi m (pt N.ends w j).1.toNat < 0 ∨ (pt N.ends w j).2 ≠ (r : Int)) → _ := fun j a => Nt (T := prT N.ends sd m r w) a;obtain ⟨T, hT⟩ : ∃ T, T = prT N.ends sd m r w := ⟨_, rfl⟩;rw [← hT] at hend hat hmz hmjl hTl ⊢;rw [← hT] at hstT hstP;refine ab ?_;have dX := And.intro dX (And.intro @hc (And.intro @hc2 @Int.toNat_natCast));refine ab (dR fun K hK => ?_);(repeat refine eV ?_);have dK := And.intro @hc (And.intro @hc2 @Int.toNat_natCast);refine aa (hK _ (ay [1, 2, 6, 9, 10, 11, 12, 13, 44, 45, 46, 62] ?_));clear hK K;refine dI ?_ ?_<;>intro hb
     ·cases hb
     ·refine af ?_;show DW _ _ _ _ _;refine ab (dR fun K hK => ?_);(repeat refine eV ?_);refine aa (hK _ (wK [1, 2, 6, 9, 10, 11, 12, 44, 45, 46, 63, 64, 65] ?_));clear hK K;refine ae ?_;refine ax (X := Nat) (fun j => j ≤ (gl N.ends w).length) (fun j => [(65, .c (.p (.int .i64 j)))]) (fun j => [((9, 0), ⟨none, [.sl true 3 1 ((mtJ N.ends m r w T j).map iC)]⟩)]) (fun j => (gl N.ends w).length - j) 0 (Nat.zero_le _) (by first | rfl | (simp only [ac, pZ, simprocAttr, Int.natCast_zero, hmz] <;> rfl)) ?_;rintro j hj;intro E hE;simp only [ac, pZ, simprocAttr] at hE;subst hE;refine ab (dR fun K hK => ?_);(repeat refine eV ?_);refine aa (hK _ (wK [1, 2, 6, 9, 10, 11, 12, 44, 45, 46, 63, 64, 65, 66] ?_));clear hK K;refine ab (dI (fun hb => ?_) (fun hb => ?_))
      ·have hj1 : j < (gl N.ends w).length := by simpa using hb
       obtain ⟨x, i, hxe, hx, hix, -⟩ := hs w j hw1 hj1;have he : gp (gl N.ends w) j = ((x : Int), (i : Int)) := hxe;have he1 : (gp (gl N.ends w) j).1 = (x : Int) := by rw [he]
       have he2 : (gp (gl N.ends w) j).2 = (i : Int) := by rw [he]
       have hmj := hmjl j;have hatj := hat j (Nat.le_of_lt hj1);have hT1 := hstT j;have hP1 := hstP j;rw [hxe] at hT1 hP1;simp only [Int.toNat_natCast] at hT1 hP1;obtain ⟨U, hU⟩ : ∃ U, U = mtJ N.ends m r w T j := ⟨_, rfl⟩;rw [← hU] at hmj hatj hT1 hP1 ⊢;rw [hTl] at hmj;refine af ?_;show DW _ _ _ _ _;refine ab (ae ?_);have dX := And.intro dX (And.intro @he1 @he2);refine ab (dR fun K hK => ?_);(repeat refine eV ?_);have dK := And.intro @he1 @he2;refine aa (hK _ (ay [1, 2, 6, 9, 10, 11, 12, 14, 15, 44, 45, 46, 63, 64, 65] ?_));clear hK K
       cases htk : tkJ N.ends m r w j with
       | true =>
        have hpass := (hP1 (.inl htk)).1;have d1 : decide (gi U w < 0) = false := decide_eq_false (fun h => by have := hatj.1 h; rw [htk] at this; cases this);have dX := And.intro dX (And.intro @Int.toNat_natCast @d1);refine ab (dR fun K hK => ?_);(repeat refine eV ?_);have dK := And.intro @Int.toNat_natCast @d1;refine aa (hK _ (ay [1, 2, 6, 9, 10, 11, 12, 14, 44, 45, 46, 63, 64, 65, 88] ?_));clear hK K;refine dI ?_ ?_<;>intro hb
        ·cases hb
        ·refine af ?_;show DW _ _ _ _ _;refine dR fun K hK => ?_;(repeat refine eV ?_);have dK := And.intro @bi @hpass;refine aa (hK _ ?_);clear hK K;show ∃ x, _ ∧ _ ∧ Weak _ _;refine ⟨j + 1, ?_, ?_, an [1, 2, 6, 9, 10, 11, 12, 44, 45, 46, 63, 64, 65]⟩
         ·omega
         ·omega
       | false =>
        have d1 : decide (gi U w < 0) = true := decide_eq_true (hatj.2 htk)
        by_cases g2 : gi m x < 0
        ·have d2 : decide (gi m x < 0) = true := decide_eq_true g2
         by_cases g3 : i = r
         ·have d3 : ((i : Int) == (r : Int)) = true := by rw [g3]; exact beq_self_eq_true _
          obtain ⟨hUT, hnx, -⟩ := hT1 htk g2 (by rw [g3]);have dX := And.intro dX (And.intro @Int.toNat_natCast (And.intro @d1 (And.intro @d2 @d3)));refine ab (dR fun K hK => ?_);(repeat refine eV ?_);have dK := And.intro @Int.toNat_natCast (And.intro @d1 (And.intro @d2 @d3));refine aa (hK _ (ay [1, 2, 6, 9, 10, 11, 12, 14, 44, 45, 46, 63, 64, 65, 88] ?_));clear hK K;refine dI ?_ ?_<;>intro hb
          ·have hset : (U.set w (j : Int)).set x (i : Int) = mtJ N.ends m r w T (j + 1) := by rw [hnx, hUT, g3]
           refine dR fun K hK => ?_;(repeat refine eV ?_);refine cL rfl ⟨rfl, _, rfl⟩ (by omega) (by first | exact T0) (Nq ⟨false, f.t1, f.o2, f.t2, false, f.t3, false, f.t4⟩ N true 3 U w j x i hw1 hj1 he hx hmj hn) ?_;rintro _ rfl;(repeat refine eV ?_);have dK := @hset;refine aa (hK _ (ay [1, 2, 6, 9, 10, 11, 12, 44, 45, 46, 63, 64, 65] ?_));clear hK K;refine dR fun K hK => ?_;(repeat refine eV ?_);have dK := @bi;refine aa (hK _ ?_);clear hK K;show ∃ x, _ ∧ _ ∧ Weak _ _;refine ⟨j + 1, ?_, ?_, an [1, 2, 6, 9, 10, 11, 12, 44, 45, 46, 63, 64, 65]⟩
           ·omega
           ·omega
          ·cases hb
         ·have d3 : ((i : Int) == (r : Int)) = false := by rw [beq_eq_false_iff_ne]; omega
          have hpass := (hP1 (.inr (.inr (by omega)))).1;have dX := And.intro dX (And.intro @Int.toNat_natCast (And.intro @d1 (And.intro @d2 @d3)));refine ab (dR fun K hK => ?_);(repeat refine eV ?_);have dK := And.intro @Int.toNat_natCast (And.intro @d1 (And.intro @d2 @d3));refine aa (hK _ (ay [1, 2, 6, 9, 10, 11, 12, 14, 44, 45, 46, 63, 64, 65, 88] ?_));clear hK K;refine dI ?_ ?_<;>intro hb
          ·cases hb
          ·refine af ?_;show DW _ _ _ _ _;refine dR fun K hK => ?_;(repeat refine eV ?_);have dK := And.intro @bi @hpass;refine aa (hK _ ?_);clear hK K;show ∃ x, _ ∧ _ ∧ Weak _ _;refine ⟨j + 1, ?_, ?_, an [1, 2, 6, 9, 10, 11, 12, 44, 45, 46, 63, 64, 65]⟩
           ·omega
           ·omega
        ·have d2 : decide (gi m x < 0) = false := decide_eq_false g2;have hpass := (hP1 (.inr (.inl g2))).1;have dX := And.intro dX (And.intro @Int.toNat_natCast (And.intro @d1 @d2));refine ab (dR fun K hK => ?_);(repeat refine eV ?_);have dK := And.intro @Int.toNat_natCast (And.intro @d1 @d2);refine aa (hK _ (ay [1, 2, 6, 9, 10, 11, 12, 14, 44, 45, 46, 63, 64, 65, 88] ?_));clear hK K;refine dI ?_ ?_<;>intro hb
         ·cases hb
         ·refine af ?_;show DW _ _ _ _ _;refine dR fun K hK => ?_;(repeat refine eV ?_);have dK := And.intro @bi @hpass;refine aa (hK _ ?_);clear hK K;show ∃ x, _ ∧ _ ∧ Weak _ _;refine ⟨j + 1, ?_, ?_, an [1, 2, 6, 9, 10, 11, 12, 44, 45, 46, 63, 64, 65]⟩
          ·omega
          ·omega
      ·have hj2 : j = dg N.ends w := by
        have : ¬ j < (gl N.ends w).length := by simpa using hb
        unfold dg; omega
       rw [hj2, hend];refine am ?_;refine wK [1, 2, 6, 9, 10, 11, 44, 45, 46] ?_;refine dR fun K hK => ?_;(repeat refine eV ?_);have dK := @bi;refine aa (hK _ ?_);clear hK K;show ∃ x, _ ∧ _ ∧ Weak _ _;refine ⟨w + 1, ?_, ?_, an [1, 2, 6, 9, 10, 11, 44, 45, 46]⟩
       ·omega
       ·omega
    ·have hst := M7 (ess := N.ends) (sd := sd) (m := m) (r := r) (w := w) (by
      cases h1 : sd w with
      | false => exact .inl rfl
      | true => exact .inr fun h3 => hgo ⟨h1, h3⟩)
     obtain ⟨T, hT⟩ : ∃ T, T = prT N.ends sd m r w := ⟨_, rfl⟩;rw [← hT] at hst hTl ⊢;obtain h1 | h1 := Bool.eq_false_or_eq_true (sd w)
     ·have hc : (gi sides w == 0) = false := by rw [hs1, if_pos h1]; rfl
      have hc2 : decide (gi m w ≥ 0) = true := decide_eq_true (by
       have : ¬ gi m w < 0 := fun h3 => hgo ⟨h1, h3⟩
       omega)
      refine ab ?_;have dX := And.intro dX (And.intro @hc (And.intro @hc2 @Int.toNat_natCast));refine ab (dR fun K hK => ?_);(repeat refine eV ?_);have dK := And.intro @hc (And.intro @hc2 @Int.toNat_natCast);refine aa (hK _ (ay [1, 2, 6, 9, 10, 11, 12, 13, 44, 45, 46, 62] ?_));clear hK K;refine dI ?_ ?_<;>intro hb
      ·refine ij ?_;refine wK [1, 2, 6, 9, 10, 11, 44, 45, 46] ?_;refine dR fun K hK => ?_;(repeat refine eV ?_);have dK := And.intro @bi @hst;refine aa (hK _ ?_);clear hK K;show ∃ x, _ ∧ _ ∧ Weak _ _;refine ⟨w + 1, ?_, ?_, an [1, 2, 6, 9, 10, 11, 44, 45, 46]⟩
       ·omega
       ·omega
      ·cases hb
     ·have hc : (gi sides w == 0) = true := by rw [hs1, if_neg (by rw [h1]; decide)]; rfl
      refine ab ?_;have dX := And.intro dX (@hc);refine ab (dR fun K hK => ?_);(repeat refine eV ?_);have dK := @hc;refine aa (hK _ (ay [1, 2, 6, 9, 10, 11, 12, 13, 44, 45, 46, 62] ?_));clear hK K;refine dI ?_ ?_<;>intro hb
      ·refine ij ?_;refine wK [1, 2, 6, 9, 10, 11, 44, 45, 46] ?_;refine dR fun K hK => ?_;(repeat refine eV ?_);have dK := And.intro @bi @hst;refine aa (hK _ ?_);clear hK K;show ∃ x, _ ∧ _ ∧ Weak _ _;refine ⟨w + 1, ?_, ?_, an [1, 2, 6, 9, 10, 11, 44, 45, 46]⟩
       ·omega
       ·omega
      ·cases hb
   ·have hw2 : w = N.ends.length := by
     have : ¬ w < N.ends.length := by simpa using hb
     omega
    rw [hw2, ← hms];refine am ?_;refine wK [1, 2, 6, 9, 10] ?_;refine dR fun K hK => ?_;(repeat refine eV ?_);have dK := @bi;refine aa (hK _ ?_);clear hK K;show ∃ x, _ ∧ _ ∧ Weak _ _;refine ⟨r + 1, ?_, ?_, an [1, 2, 6, 9, 10]⟩
    ·omega
    ·omega
  ·have hr2 : r = R := by
    have : ¬ r < R := by simpa using hb
    omega
   refine am ?_;refine wK [6, 9] ?_;refine ab (dR fun K hK => ?_);(repeat refine eV ?_);refine aa (hK _ (wK [4, 5] ?_));clear hK K;exact ak (aq Tryz.results183 (.two (.own _ _ _ _ rfl rfl (own1 (bn _ _))) (.plain _ _ rfl)) (by decide) (by rw [hm, hr2]))
end
section
open Go Go.RowKit
def pmSt18 : Nat → Stat
 | 0 => ⟨[6], [], [], [73], [], []⟩
 | 1 => ⟨[14], [(14, 1)], [], [74], [], []⟩
 | 2 => ⟨[74], [(14, 1)], [], [75], [], []⟩
 | 3 => ⟨[73, 75], [(6, 1)], [], [76], [], []⟩
 | 4 => ⟨[76], [(6, 2)], [], [77], [], []⟩
 | 5 => ⟨[77], [], [], [78], [], []⟩
 | 6 => ⟨[78], [], [], [79], [], []⟩
 | 7 => ⟨[11, 79], [], [], [80], [], []⟩
 | 8 => ⟨[14, 79], [(14, 1)], [], [81], [], []⟩
 | 9 => ⟨[81, 79], [(14, 1)], [], [82], [], []⟩
 | 10 => ⟨[80, 82, 79], [(11, 1)], [], [83], [], []⟩
 | 11 => ⟨[83, 79], [(11, 2)], [], [84], [], []⟩
 | 12 => ⟨[84, 79], [], [], [85], [], []⟩
 | 13 => ⟨[85, 79], [], [], [86], [], []⟩
 | 14 => ⟨[14, 86], [(14, 1)], [], [87], [], []⟩
 | 15 => ⟨[87, 86], [(14, 1)], [], [88], [], []⟩
 | 16 => ⟨[11, 86], [], [], [89], [], []⟩
 | 17 => ⟨[14, 86], [(14, 1)], [], [90], [], []⟩
 | 18 => ⟨[90, 86], [(14, 1)], [], [91], [], []⟩
 | 19 => ⟨[89, 91, 86], [(11, 1)], [], [92], [], []⟩
 | 20 => ⟨[92, 86], [(11, 2)], [], [93], [], []⟩
 | 21 => ⟨[88, 93, 86], [], [], [94], [], []⟩
 | 22 => ⟨[86, 94, 79], [], [], [95], [], []⟩
 | 23 => ⟨[79, 95], [], [], [96], [], []⟩
 | _ => ⟨[], [], [], [], [], []⟩
def zBCb31 := PLift.up (And.intro ap (And.intro bh (And.intro ce (And.intro bl (And.intro az (And.intro be (And.intro @if_pos.{1} (And.intro @b7 (And.intro @dm (And.intro @dl (And.intro @bz (And.intro @bq (And.intro @bt (And.intro @qv (And.intro @qu @trivial)))))))))))))))
theorem U6 : type_of% zBCb31.down := zBCb31.down
set_option maxRecDepth 8000 in
set_option maxHeartbeats 0 in
theorem po (f : NF) (N : Net) (o : Bool) (t : TypeId) (sides : List Int) (sd : Nat → Bool) (hs : Sym N.ends) (hn : N.ends.length ≤ 1000) (hdg : ∀ v, (gl N.ends v).length ≤ 1000) (hsl : sides.length = N.ends.length) (hsd : ∀ v, v < N.ends.length → gi sides v = if sd v = true then 1 else 0) (h2 : ∀ v i, v < N.ends.length → i < dg N.ends v → sd (pt N.ends v i).1.toNat ≠ sd v) : DCalls Tryz.prog 131 [.agg (bw f N), .c (.sl o t 1 (sides.map iC))] (fun r => r = [.own false [.sl true 3 1 ((prM N.ends sd (rdM N.ends sd N.ends.length)).map iC)], .c (.p (.int .i64 (rdM N.ends sd N.ends.length : Nat)))]) := by
 refine ao Tryz.func131 rfl (by rw [Tryz.ntmps131]; simp) fun w0 => ?_;rw [Tryz.ntmps131];have dX := U6;simp only [b4, bc, Arg.av, bw, b8, ints, ends];refine ab (dR fun K hK => ?_);(repeat refine eV ?_);refine aa (hK _ (wK [1, 2] ?_));clear hK K;refine ab (dR fun K hK => ?_);(repeat refine eV ?_);refine cL rfl ⟨rfl, _, rfl⟩ (by omega) (by first | exact Oa) (rl ⟨false, f.t1, f.o2, f.t2, false, f.t3, false, f.t4⟩ N hn) ?_;rintro _ rfl;(repeat refine eV ?_);refine aa (hK _ (wK [1, 2, 6] ?_));clear hK K;refine ab (dR fun K hK => ?_);(repeat refine eV ?_);refine aa (hK _ (wK [1, 2, 6, 7] ?_));clear hK K;refine ab ?_;refine ab (dR fun K hK => ?_);(repeat refine eV ?_);refine aa (hK _ (wK [1, 2, 6, 7, 20, 21, 22] ?_));clear hK K;refine ae ?_;have hr0 : rdM N.ends sd 0 = 0 := rfl;have hp0 : List.replicate N.ends.length (-1) = prM N.ends sd 0 := rfl;rw [hp0];refine ax (X := Nat) (fun v => v ≤ N.ends.length) (fun v => [(7, .c (.p (.int .i64 (rdM N.ends sd v : Nat)))), (22, .c (.p (.int .i64 v)))]) (fun v => []) (fun v => N.ends.length - v) 0 (Nat.zero_le _) (by first | rfl | (simp only [ac, pZ, simprocAttr, Int.natCast_zero, hr0] <;> rfl)) ?_;rintro v hv;intro E hE;simp only [ac, pZ, simprocAttr] at hE;subst hE;refine ab (dR fun K hK => ?_);(repeat refine eV ?_);refine aa (hK _ (wK [1, 2, 6, 7, 20, 21, 22, 23] ?_));clear hK K;refine ab (dI (fun hb => ?_) (fun hb => ?_))
 ·have hv1 : v < N.ends.length := by simpa using hb
  have hs1 := hsd v hv1;have hrl := sy (ess := N.ends) (sd := sd) (B := 1000) hdg v;have hdv := hdg v
  have hrs : rdM N.ends sd (v + 1) = if sd v = false then max (rdM N.ends sd v) (dg N.ends v) else rdM N.ends sd v := rfl
  refine af ?_;show DW _ _ _ _ _;refine ab (ae ?_);refine ab (dR fun K hK => ?_);(repeat refine eV ?_);refine aa (hK _ (wK [1, 2, 6, 7, 8, 9, 20, 21, 22] ?_));clear hK K;obtain h1 | h1 := Bool.eq_false_or_eq_true (sd v)
  ·have hc : (gi sides v == 0) = false := by rw [hs1, if_pos h1]; rfl
   have hm : rdM N.ends sd (v + 1) = rdM N.ends sd v := by rw [hrs, if_neg (by rw [h1]; decide)]
   have dX := And.intro dX (@hc);refine ab (dR fun K hK => ?_);(repeat refine eV ?_);have dK := @hc;refine aa (hK _ (ay [1, 2, 6, 7, 9, 20, 21, 22, 31] ?_));clear hK K;refine dI ?_ ?_<;>intro hb
   ·cases hb
   ·refine af ?_;show DW _ _ _ _ _;refine dR fun K hK => ?_;(repeat refine eV ?_);have dK := And.intro @bi @hm;refine aa (hK _ ?_);clear hK K;show ∃ x, _ ∧ _ ∧ Weak _ _;refine ⟨v + 1, ?_, ?_, an [1, 2, 6, 7, 20, 21, 22]⟩
    ·omega
    ·omega
  ·have hc : (gi sides v == 0) = true := by rw [hs1, if_neg (by rw [h1]; decide)]; rfl
   have hm : max ((rdM N.ends sd v : Nat) : Int) ((gl N.ends v).length : Int) = ((rdM N.ends sd (v + 1) : Nat) : Int) := by
    rw [hrs, if_pos h1];unfold dg;omega
   have dX := And.intro dX (@hc);refine ab (dR fun K hK => ?_);(repeat refine eV ?_);have dK := @hc;refine aa (hK _ (ay [1, 2, 6, 7, 9, 20, 21, 22, 31] ?_));clear hK K;refine dI ?_ ?_<;>intro hb
   ·have dX := And.intro dX (@hm);refine dR fun K hK => ?_;(repeat refine eV ?_);have dK := @hm;refine aa (hK _ (ay [1, 2, 6, 7, 20, 21, 22] ?_));clear hK K;refine dR fun K hK => ?_;(repeat refine eV ?_);have dK := @bi;refine aa (hK _ ?_);clear hK K;show ∃ x, _ ∧ _ ∧ Weak _ _;refine ⟨v + 1, ?_, ?_, an [1, 2, 6, 7, 20, 21, 22]⟩
    ·omega
    ·omega
   ·cases hb
 ·have hv2 : v = N.ends.length := by
   have : ¬ v < N.ends.length := by simpa using hb
   omega
  rw [hv2];have hRl := sy (ess := N.ends) (sd := sd) (B := 1000) hdg N.ends.length;obtain ⟨R, hR⟩ : ∃ R, R = rdM N.ends sd N.ends.length := ⟨_, rfl⟩;rw [← hR] at hRl ⊢;refine am ?_;refine a7 [1, 2, 6, 7] (by simp only [ac, pZ, simprocAttr]; exact rfl) ?_;refine ab ?_;refine ab (dR fun K hK => ?_);(repeat refine eV ?_);refine aa (hK _ (wK [1, 2, 6, 7, 37, 38] ?_));clear hK K;refine ae ?_;refine ax (X := Nat) (fun r => r ≤ R) (fun r => [(38, .c (.p (.int .i64 r)))]) (fun r => [((6, 0), ⟨none, [.sl true 3 1 ((prM N.ends sd r).map iC)]⟩)]) (fun r => R - r) 0 (Nat.zero_le _) (by first | rfl | (simp only [ac, pZ, simprocAttr, Int.natCast_zero] <;> rfl)) ?_;rintro r hr;intro E hE;simp only [ac, pZ, simprocAttr] at hE;subst hE;have hml := vz (ess := N.ends) (sd := sd) r;have hms : prM N.ends sd (r + 1) = prT N.ends sd (prM N.ends sd r) r N.ends.length := rfl;obtain ⟨m, hm⟩ : ∃ m, m = prM N.ends sd r := ⟨_, rfl⟩;rw [← hm] at hml hms ⊢;refine ab (dR fun K hK => ?_);(repeat refine eV ?_);refine aa (hK _ (wK [1, 2, 6, 7, 37, 38, 39] ?_));clear hK K;refine ab (dI (fun hb => ?_) (fun hb => ?_))
  ·have hr1 : r < R := by simpa using hb
   have hb0 := Pr (ess := N.ends) (sd := sd) (m := m) (r := r);refine af ?_;show DW _ _ _ _ _;refine ab (ae ?_);refine ab (dR fun K hK => ?_);(repeat refine eV ?_);refine aa (hK _ (wK [1, 2, 6, 7, 10, 37, 38] ?_));clear hK K;refine ab (dR fun K hK => ?_);(repeat refine eV ?_);refine cL rfl ⟨rfl, _, rfl⟩ (by omega) (by first | exact Oa) (rl ⟨false, f.t1, f.o2, f.t2, false, f.t3, false, f.t4⟩ N hn) ?_;rintro _ rfl;(repeat refine eV ?_);have dK := (Eq.symm hb0);refine aa (hK _ (ay [1, 2, 6, 7, 10, 11, 37, 38] ?_));clear hK K;refine ab ?_;refine ab (dR fun K hK => ?_);(repeat refine eV ?_);refine aa (hK _ (wK [1, 2, 6, 7, 10, 11, 37, 38, 44, 45, 46] ?_));clear hK K;refine ae ?_;refine ax (X := Nat) (fun v => v ≤ N.ends.length) (fun v => [(46, .c (.p (.int .i64 v)))]) (fun v => [((11, 0), ⟨none, [.sl true 3 1 ((bsL N.ends sd m r v).map iC)]⟩)]) (fun v => N.ends.length - v) 0 (Nat.zero_le _) (by first | rfl | (simp only [ac, pZ, simprocAttr, Int.natCast_zero] <;> rfl)) ?_;rintro v hv;intro E hE;simp only [ac, pZ, simprocAttr] at hE;subst hE;have hbl := C8 (ess := N.ends) (sd := sd) (m := m) (r := r) v;refine ab (dR fun K hK => ?_);(repeat refine eV ?_);refine aa (hK _ (wK [1, 2, 6, 7, 10, 11, 37, 38, 44, 45, 46, 47] ?_));clear hK K;refine ab (dI (fun hb => ?_) (fun hb => ?_))
   ·have hv1 : v < N.ends.length := by simpa using hb
    have hs1 := hsd v hv1;have hdv := hdg v;refine af ?_;show DW _ _ _ _ _;refine ab (ae ?_);refine ab (dR fun K hK => ?_);(repeat refine eV ?_);refine aa (hK _ (wK [1, 2, 6, 7, 10, 11, 12, 13, 37, 38, 44, 45, 46] ?_));clear hK K;obtain h1 | h1 := Bool.eq_false_or_eq_true (sd v)
    ·have hc : (gi sides v != 0) = true := by rw [hs1, if_pos h1]; rfl
     have hst := Hq (m := m) (r := r) hs (.inl h1);refine ab ?_;have dX := And.intro dX (@hc);refine ab (dR fun K hK => ?_);(repeat refine eV ?_);have dK := @hc;refine aa (hK _ (ay [1, 2, 6, 7, 10, 11, 13, 37, 38, 44, 45, 46, 68] ?_));clear hK K;refine dI ?_ ?_<;>intro hb
     ·refine ij ?_;refine a7 [1, 2, 6, 7, 10, 11, 37, 38, 44, 45, 46] (by simp only [ac, pZ, simprocAttr]; exact rfl) ?_;refine dR fun K hK => ?_;(repeat refine eV ?_);have dK := And.intro @bi @hst;refine aa (hK _ ?_);clear hK K;show ∃ x, _ ∧ _ ∧ Weak _ _;refine ⟨v + 1, ?_, ?_, an [1, 2, 6, 7, 10, 11, 37, 38, 44, 45, 46]⟩
      ·omega
      ·omega
     ·cases hb
    ·have hc : (gi sides v != 0) = false := by rw [hs1, if_neg (by rw [h1]; decide)]; rfl
     by_cases h3 : gi m v < 0
     ·have hc2 : decide (gi m v ≥ 0) = false := decide_eq_false (by omega)
      by_cases h4 : dg N.ends v ≤ r
      ·have hc3 : decide ((r : Int) ≥ ((gl N.ends v).length : Int)) = true := decide_eq_true (by unfold dg at h4; omega);have hst := Hq (sd := sd) (m := m) (r := r) hs (.inr (.inr h4));refine ab ?_;have dX := And.intro dX (And.intro @hc (And.intro @hc2 (And.intro @hc3 @Int.toNat_natCast)));refine ab (dR fun K hK => ?_);(repeat refine eV ?_);have dK := And.intro @hc (And.intro @hc2 (And.intro @hc3 @Int.toNat_natCast));refine aa (hK _ (ay [1, 2, 6, 7, 10, 11, 13, 37, 38, 44, 45, 46, 68] ?_));clear hK K;refine dI ?_ ?_<;>intro hb
       ·refine ij ?_;refine a7 [1, 2, 6, 7, 10, 11, 37, 38, 44, 45, 46] (by simp only [ac, pZ, simprocAttr]; exact rfl) ?_;refine dR fun K hK => ?_;(repeat refine eV ?_);have dK := And.intro @bi @hst;refine aa (hK _ ?_);clear hK K;show ∃ x, _ ∧ _ ∧ Weak _ _;refine ⟨v + 1, ?_, ?_, an [1, 2, 6, 7, 10, 11, 37, 38, 44, 45, 46]⟩
        ·omega
        ·omega
       ·cases hb
      ·have hc3 : decide ((r : Int) ≥ ((gl N.ends v).length : Int)) = false := decide_eq_false (by unfold dg at h4; omega);have hrd : r < (gl N.ends v).length := by unfold dg at h4; omega
       obtain ⟨x, i, hxe, hx, hix, -⟩ := hs v r hv1 hrd;have he1 : (gp (gl N.ends v) r).1 = (x : Int) := by rw [show gp (gl N.ends v) r = _ from hxe]
       have he2 : (gp (gl N.ends v) r).2 = (i : Int) := by rw [show gp (gl N.ends v) r = _ from hxe]
       have hbx := Pu (sd := sd) (m := m) (r := r) (k := v) hx;have hful := fun h => Pt (sd := sd) (m := m) (v := v) hs hxe h;have hset := fun h g => R7 (m := m) hs hv1 hrd h1 h3 hxe h g;have hsta := fun h g => Ps (m := m) hs hv1 hrd h1 h3 hxe h g;obtain ⟨b, hbe⟩ : ∃ b, b = bsI N.ends sd m r v x := ⟨_, rfl⟩;rw [← hbe] at hbx hset hsta;obtain ⟨U, hU⟩ : ∃ U, U = bsL N.ends sd m r v := ⟨_, rfl⟩;rw [← hU] at hbl hbx hful hset hsta ⊢;refine ab ?_;have dX := And.intro dX (And.intro @hc (And.intro @hc2 (And.intro @hc3 @Int.toNat_natCast)));refine ab (dR fun K hK => ?_);(repeat refine eV ?_);have dK := And.intro @hc (And.intro @hc2 (And.intro @hc3 @Int.toNat_natCast));refine aa (hK _ (ay [1, 2, 6, 7, 10, 11, 13, 37, 38, 44, 45, 46, 68] ?_));clear hK K;refine dI ?_ ?_<;>intro hb
       ·cases hb
       ·refine af ?_;show DW _ _ _ _ _;have dX := And.intro dX (And.intro @Int.toNat_natCast (And.intro @he1 @he2));refine ab (dR fun K hK => ?_);(repeat refine eV ?_);have dK := And.intro @Int.toNat_natCast (And.intro @he1 @he2);refine aa (hK _ (ay [1, 2, 6, 7, 10, 11, 14, 37, 38, 44, 45, 46] ?_));clear hK K
        by_cases g1 : gi m x < 0
        ·have d1 : decide (gi m x < 0) = true := decide_eq_true g1
         by_cases g2 : b < 0
         ·have d2 : decide (gi U x < 0) = true := decide_eq_true (by rw [hbx]; exact g2);have hn1 := hset g1 (.inl g2);have dX := And.intro dX (And.intro @pmSt18.eq_def (And.intro @Int.toNat_natCast (And.intro @d1 @d2)));refine ab (fg pmSt18 (fun j r => True) fun K hK => ?_);(repeat refine dV ?_);have dK := And.intro @d1 @d2;refine bg (hK _ (ay [1, 2, 6, 7, 10, 11, 14, 37, 38, 44, 45, 46, 96] ?_));clear hK K;refine dI ?_ ?_<;>intro hb
          ·have dX := And.intro dX (@Int.toNat_natCast);refine dR fun K hK => ?_;(repeat refine eV ?_);have dK := And.intro @Int.toNat_natCast (And.intro @pn @hn1);refine aa (hK _ (ay [1, 2, 6, 7, 10, 11, 37, 38, 44, 45, 46] ?_));clear hK K;refine dR fun K hK => ?_;(repeat refine eV ?_);have dK := @bi;refine aa (hK _ ?_);clear hK K;show ∃ x, _ ∧ _ ∧ Weak _ _;refine ⟨v + 1, ?_, ?_, an [1, 2, 6, 7, 10, 11, 37, 38, 44, 45, 46]⟩
           ·omega
           ·omega
          ·cases hb
         ·have d2 : decide (gi U x < 0) = false := decide_eq_false (by rw [hbx]; exact g2)
          by_cases g3 : (i : Int) < b
          ·have d3 : decide ((i : Int) < gi U x) = true := decide_eq_true (by rw [hbx]; exact g3);have hn1 := hset g1 (.inr g3);have dX := And.intro dX (And.intro @pmSt18.eq_def (And.intro @Int.toNat_natCast (And.intro @d1 (And.intro @d2 @d3))));refine ab (fg pmSt18 (fun j r => True) fun K hK => ?_);(repeat refine dV ?_);have dK := And.intro @d1 (And.intro @d2 @d3);refine bg (hK _ (ay [1, 2, 6, 7, 10, 11, 14, 37, 38, 44, 45, 46, 96] ?_));clear hK K;refine dI ?_ ?_<;>intro hb
           ·have dX := And.intro dX (@Int.toNat_natCast);refine dR fun K hK => ?_;(repeat refine eV ?_);have dK := And.intro @Int.toNat_natCast (And.intro @pn @hn1);refine aa (hK _ (ay [1, 2, 6, 7, 10, 11, 37, 38, 44, 45, 46] ?_));clear hK K;refine dR fun K hK => ?_;(repeat refine eV ?_);have dK := @bi;refine aa (hK _ ?_);clear hK K;show ∃ x, _ ∧ _ ∧ Weak _ _;refine ⟨v + 1, ?_, ?_, an [1, 2, 6, 7, 10, 11, 37, 38, 44, 45, 46]⟩
            ·omega
            ·omega
           ·cases hb
          ·have d3 : decide ((i : Int) < gi U x) = false := decide_eq_false (by rw [hbx]; exact g3);have hn1 := hsta g1 (fun h => h.elim g2 g3);have dX := And.intro dX (And.intro @pmSt18.eq_def (And.intro @Int.toNat_natCast (And.intro @d1 (And.intro @d2 @d3))));refine ab (fg pmSt18 (fun j r => True) fun K hK => ?_);(repeat refine dV ?_);have dK := And.intro @d1 (And.intro @d2 @d3);refine bg (hK _ (ay [1, 2, 6, 7, 10, 11, 14, 37, 38, 44, 45, 46, 96] ?_));clear hK K;refine dI ?_ ?_<;>intro hb
           ·cases hb
           ·refine af ?_;show DW _ _ _ _ _;refine dR fun K hK => ?_;(repeat refine eV ?_);have dK := And.intro @bi @hn1;refine aa (hK _ ?_);clear hK K;show ∃ x, _ ∧ _ ∧ Weak _ _;refine ⟨v + 1, ?_, ?_, an [1, 2, 6, 7, 10, 11, 37, 38, 44, 45, 46]⟩
            ·omega
            ·omega
        ·have d1 : decide (gi m x < 0) = false := decide_eq_false g1;have hn1 := hful g1;have dX := And.intro dX (And.intro @pmSt18.eq_def (And.intro @Int.toNat_natCast @d1));refine ab (fg pmSt18 (fun j r => True) fun K hK => ?_);(repeat refine dV ?_);have dK := @d1;refine bg (hK _ (ay [1, 2, 6, 7, 10, 11, 14, 37, 38, 44, 45, 46, 96] ?_));clear hK K;refine dI ?_ ?_<;>intro hb
         ·cases hb
         ·refine af ?_;show DW _ _ _ _ _;refine dR fun K hK => ?_;(repeat refine eV ?_);have dK := And.intro @bi @hn1;refine aa (hK _ ?_);clear hK K;show ∃ x, _ ∧ _ ∧ Weak _ _;refine ⟨v + 1, ?_, ?_, an [1, 2, 6, 7, 10, 11, 37, 38, 44, 45, 46]⟩
          ·omega
          ·omega
     ·have hc2 : decide (gi m v ≥ 0) = true := decide_eq_true (by omega);have hst := Hq (sd := sd) (m := m) (r := r) (v := v) hs (.inr (.inl (by omega)));refine ab ?_;have dX := And.intro dX (And.intro @hc (And.intro @hc2 @Int.toNat_natCast));refine ab (dR fun K hK => ?_);(repeat refine eV ?_);have dK := And.intro @hc (And.intro @hc2 @Int.toNat_natCast);refine aa (hK _ (ay [1, 2, 6, 7, 10, 11, 13, 37, 38, 44, 45, 46, 68] ?_));clear hK K;refine dI ?_ ?_<;>intro hb
      ·refine ij ?_;refine a7 [1, 2, 6, 7, 10, 11, 37, 38, 44, 45, 46] (by simp only [ac, pZ, simprocAttr]; exact rfl) ?_;refine dR fun K hK => ?_;(repeat refine eV ?_);have dK := And.intro @bi @hst;refine aa (hK _ ?_);clear hK K;show ∃ x, _ ∧ _ ∧ Weak _ _;refine ⟨v + 1, ?_, ?_, an [1, 2, 6, 7, 10, 11, 37, 38, 44, 45, 46]⟩
       ·omega
       ·omega
      ·cases hb
   ·have hv2 : v = N.ends.length := by
     have : ¬ v < N.ends.length := by simpa using hb
     omega
    rw [hv2];have hble := C8 (ess := N.ends) (sd := sd) (m := m) (r := r) N.ends.length;have hbat := fun w (hw : w < N.ends.length) => (Pu (sd := sd) (m := m) (r := r) (k := N.ends.length) hw).trans (R8 (m := m) (r := r) hs h2 hw);obtain ⟨B, hB⟩ : ∃ B, B = bsL N.ends sd m r N.ends.length := ⟨_, rfl⟩;rw [← hB] at hble hbat ⊢;have ht0 : m = prT N.ends sd m r 0 := rfl;refine am ?_;refine a7 [1, 2, 6, 7, 10, 11, 37, 38] (by simp only [ac, pZ, simprocAttr]; exact rfl) ?_;refine yr 11 [1, 2, 6, 7, 10, 11, 37, 38] rfl rfl (by simp only [ac, pZ, simprocAttr, D2, Ak, qz, qy, k9]; exact rfl) ?_;have dX := And.intro dX (@hble);refine ab (dR fun K hK => ?_);(repeat refine eV ?_);have dK := @hble;refine aa (hK _ (ay [1, 2, 6, 7, 10, 37, 38, 104, 105, 106] ?_));clear hK K;refine ae ?_;refine ax (X := Nat) (fun w => w ≤ N.ends.length) (fun w => [(106, .c (.p (.int .i64 w)))]) (fun w => [((6, 0), ⟨none, [.sl true 3 1 ((prT N.ends sd m r w).map iC)]⟩)]) (fun w => N.ends.length - w) 0 (Nat.zero_le _) (by first | rfl | (simp only [ac, pZ, simprocAttr, Int.natCast_zero] <;> rfl)) ?_;rintro w hw;intro E hE;simp only [ac, pZ, simprocAttr] at hE;subst hE;have hTl : (prT N.ends sd m r w).length = N.ends.length := by rw [l5, hml]
    refine ab (dR fun K hK => ?_);(repeat refine eV ?_);refine aa (hK _ (wK [1, 2, 6, 7, 10, 37, 38, 104, 105, 106, 107] ?_));clear hK K;refine ab (dI (fun hb => ?_) (fun hb => ?_))
    ·have hw1 : w < N.ends.length := by simpa using hb
     have hbw := hbat w hw1
     have hpn : prT N.ends sd m r (w + 1) = match prJ N.ends sd m r w with
      | some j => ((prT N.ends sd m r w).set w (j : Int)).set (pt N.ends w j).1.toNat (r : Int)
      | none => prT N.ends sd m r w := rfl
     obtain ⟨T, hT⟩ : ∃ T, T = prT N.ends sd m r w := ⟨_, rfl⟩;rw [← hT] at hpn hTl ⊢
     cases hj : prJ N.ends sd m r w with
     | none =>
      rw [hj] at hbw hpn;have hbw : gi B w = -1 := hbw;have hpn : prT N.ends sd m r (w + 1) = T := hpn;have d1 : decide (gi B w ≥ 0) = false := decide_eq_false (by omega);refine af ?_;show DW _ _ _ _ _;refine ab (ae ?_);refine ab (dR fun K hK => ?_);(repeat refine eV ?_);refine aa (hK _ (wK [1, 2, 6, 7, 10, 15, 16, 37, 38, 104, 105, 106] ?_));clear hK K;have dX := And.intro dX (@d1);refine ab (dR fun K hK => ?_);(repeat refine eV ?_);have dK := @d1;refine aa (hK _ (ay [1, 2, 6, 7, 10, 15, 16, 37, 38, 104, 105, 106, 112] ?_));clear hK K;refine dI ?_ ?_<;>intro hb
      ·cases hb
      ·refine af ?_;show DW _ _ _ _ _;refine dR fun K hK => ?_;(repeat refine eV ?_);have dK := And.intro @bi @hpn;refine aa (hK _ ?_);clear hK K;show ∃ x, _ ∧ _ ∧ Weak _ _;refine ⟨w + 1, ?_, ?_, an [1, 2, 6, 7, 10, 37, 38, 104, 105, 106]⟩
       ·omega
       ·omega
     | some j =>
      obtain ⟨k1, k2, k3, k4, k5⟩ := lb hj;obtain ⟨x, i, hxe, hx, hix, -⟩ := hs w j hw1 k3;have he1 : (gp (gl N.ends w) j).1 = (x : Int) := by rw [show gp (gl N.ends w) j = _ from hxe]
      have hjl : j < (gl N.ends w).length := k3;have hdw := hdg w;rw [hj] at hbw hpn;have hbw : gi B w = (j : Int) := hbw
      have hpn : (T.set w (j : Int)).set x (r : Int) = prT N.ends sd m r (w + 1) := by
       have : prT N.ends sd m r (w + 1) = (T.set w (j : Int)).set (pt N.ends w j).1.toNat (r : Int) := hpn;rw [this, hxe, Int.toNat_natCast]
      have hT1 : (T.set w (j : Int)).length = N.ends.length := by rw [List.length_set, hTl]
      have d1 : decide ((j : Int) ≥ 0) = true := decide_eq_true (by omega);refine af ?_;show DW _ _ _ _ _;refine ab (ae ?_);have dX := And.intro dX (@hbw);refine ab (dR fun K hK => ?_);(repeat refine eV ?_);have dK := @hbw;refine aa (hK _ (ay [1, 2, 6, 7, 10, 15, 16, 37, 38, 104, 105, 106] ?_));clear hK K;have dX := And.intro dX (@d1);refine ab (dR fun K hK => ?_);(repeat refine eV ?_);have dK := @d1;refine aa (hK _ (ay [1, 2, 6, 7, 10, 15, 16, 37, 38, 104, 105, 106, 112] ?_));clear hK K;refine dI ?_ ?_<;>intro hb
      ·have dX := And.intro dX (And.intro @Int.toNat_natCast (And.intro @he1 (And.intro @hTl (And.intro @pn @hT1))));refine dR fun K hK => ?_;(repeat refine eV ?_);have dK := And.intro @Int.toNat_natCast (And.intro @he1 (And.intro @pn @hpn));refine aa (hK _ (ay [1, 2, 6, 7, 10, 37, 38, 104, 105, 106] ?_));clear hK K;refine dR fun K hK => ?_;(repeat refine eV ?_);have dK := @bi;refine aa (hK _ ?_);clear hK K;show ∃ x, _ ∧ _ ∧ Weak _ _;refine ⟨w + 1, ?_, ?_, an [1, 2, 6, 7, 10, 37, 38, 104, 105, 106]⟩
       ·omega
       ·omega
      ·cases hb
    ·have hw2 : w = N.ends.length := by
      have : ¬ w < N.ends.length := by simpa using hb
      omega
     rw [hw2, ← hms];refine am ?_;refine a7 [1, 2, 6, 7, 37, 38] (by simp only [ac, pZ, simprocAttr]; exact rfl) ?_;refine dR fun K hK => ?_;(repeat refine eV ?_);have dK := @bi;refine aa (hK _ ?_);clear hK K;show ∃ x, _ ∧ _ ∧ Weak _ _;refine ⟨r + 1, ?_, ?_, an [1, 2, 6, 7, 37, 38]⟩
     ·omega
     ·omega
  ·have hr2 : r = R := by
    have : ¬ r < R := by simpa using hb
    omega
   refine am ?_;refine a7 [6, 7] (by simp only [ac, pZ, simprocAttr]; exact rfl) ?_;refine ab (dR fun K hK => ?_);(repeat refine eV ?_);refine aa (hK _ (wK [4, 5] ?_));clear hK K;exact ak (aq Tryz.results131 (.two (.own _ _ _ _ rfl rfl (own1 (bn _ _))) (.plain _ _ rfl)) (by decide) (by rw [hm, hr2]))
end
section
set_option maxHeartbeats 0
set_option maxRecDepth 8000
open Go Go.RowKit
def zBCb51 := PLift.up (And.intro ap (And.intro @netO.eq_1 (And.intro @netZ.eq_1 (And.intro @b7 (And.intro bl (And.intro az (And.intro be (And.intro ce (And.intro bh (And.intro @if_pos.{1} (And.intro @bz (And.intro @bq (And.intro @bt @trivial)))))))))))))
theorem mh : type_of% zBCb51.down := zBCb51.down
theorem n8 (f : NF) (N : Net) (hg : bm N = true) : DCalls Tryz.prog 133 [.agg (bw f N)] (fun r => r = [.own true (netO (okN (dc N))), .c (.p (.bool (bm (dc N))))]) := by
 obtain ⟨hs, hn, hids, hdg⟩ := fe hg;have hin := Cp hg
 have hrg : ∀ v i, v < N.ends.length → i < (gl N.ends v).length → -1000 ≤ (gp (gl N.ends v) i).1 ∧ (gp (gl N.ends v) i).1 ≤ 1000 := fun v i hv hi => by
  obtain ⟨q1, q2, q3, q4, q5⟩ := w4 hs hv hi;rw [q5]; omega
 have hbd := y5 ⟨false, f.t1, f.o2, f.t2, false, f.t3, false, f.t4⟩ N (by omega) hin (fun v _ => hdg v) hrg;rw [Pd hin] at hbd;refine ao Tryz.func133 rfl (by rw [Tryz.ntmps133]; simp) fun w0 => ?_;rw [Tryz.ntmps133];have dX := mh;simp only [b4, bc, Arg.av, bw, b8, ints, ends];refine ab (dR fun K hK => ?_);(repeat refine eV ?_);refine aa (hK _ (wK [1, 2] ?_));clear hK K;refine ab ?_;refine ab (dR fun K hK => ?_);(repeat refine eV ?_);refine cL rfl ⟨rfl, _, rfl⟩ (by omega) (by first | exact I6) (rn ⟨false, f.t1, f.o2, f.t2, false, f.t3, false, f.t4⟩ N) ?_;rintro _ rfl;(repeat refine eV ?_);have dK := @hg;refine aa (hK _ (ay [1, 2, 6] ?_));clear hK K;refine dI ?_ ?_<;>intro hb
 ·cases hb
 ·refine af ?_;show DW _ _ _ _ _;refine ab (dR fun K hK => ?_);(repeat refine eV ?_);refine cL rfl ⟨rfl, _, rfl⟩ (by omega) (by first | exact Ch | exact N9) (hbd) ?_;rintro _ rfl;(repeat refine eV ?_);refine gmF rfl ⟨rfl, _, rfl⟩ (by omega) (by first | exact Ch | exact N9) (Tt (dc N)) ?_;rintro _ rfl;refine K7 ?_;(repeat refine eV ?_);have dK := @netO.eq_1;refine aa (hK _ (ay [2, 3] ?_));clear hK K;exact ak (aq Tryz.results133 (.two (.cell 2 _ _ _ _ rfl rfl ap rfl rfl (au _)) (.plain _ _ rfl)) (by decide) rfl)
theorem vp (f : NF) (N : Net) (hg : bm N = false) : DCalls Tryz.prog 133 [.agg (bw f N)] (fun r => r = [.own true (netO Eg), .c (.p (.bool false))]) := by
 refine ao Tryz.func133 rfl (by rw [Tryz.ntmps133]; simp) fun w0 => ?_;rw [Tryz.ntmps133];have dX := mh;simp only [b4, bc, Arg.av, bw, b8, ints, ends];refine ab (dR fun K hK => ?_);(repeat refine eV ?_);refine aa (hK _ (wK [1, 2] ?_));clear hK K;refine ab ?_;refine ab (dR fun K hK => ?_);(repeat refine eV ?_);refine cL rfl ⟨rfl, _, rfl⟩ (by omega) (by first | exact I6) (rn ⟨false, f.t1, f.o2, f.t2, false, f.t3, false, f.t4⟩ N) ?_;rintro _ rfl;(repeat refine eV ?_);have dK := @hg;refine aa (hK _ (ay [1, 2, 6] ?_));clear hK K;refine dI ?_ ?_<;>intro hb
 ·refine ab (dR fun K hK => ?_);(repeat refine eV ?_);refine aa (hK _ (wK [2, 3] ?_));clear hK K;refine cq 2 0 103 1 (by decide) rfl rfl [2, 3] (by simp only [ac, pZ, simprocAttr, List.modify_zero_cons, List.modify_succ_cons]; exact rfl) ?_;refine cq 2 1 3 1 (by decide) rfl rfl [2, 3] (by simp only [ac, pZ, simprocAttr, List.modify_zero_cons, List.modify_succ_cons]; exact rfl) ?_;refine cq 2 2 3 1 (by decide) rfl rfl [2, 3] (by simp only [ac, pZ, simprocAttr, List.modify_zero_cons, List.modify_succ_cons]; exact rfl) ?_;exact ak (aq Tryz.results133 (.two (.cell 2 _ _ _ _ rfl rfl ap rfl rfl (au Eg)) (.plain _ _ rfl)) (by decide) rfl)
 ·cases hb
def nw (N : Net) : List Int := prM (br N.ends) (sdD N.ends.length) (rdM (br N.ends) (sdD N.ends.length) (br N.ends).length)
theorem Fc (N : Net) : (nw N).length = N.ends.length + N.ends.length := by unfold nw; rw [vz, d7]
def cvP (N : Net) (v : Nat) : Bool := decide (gi (nw N) v ≥ 0) || decide (gi (nw N) (v + N.ends.length) ≥ 0)
def cvL (N : Net) : List Int := ep (cvP N) N.ends.length
def sdS (k j : Nat) : List Int := (List.range (2 * k)).map fun i => if k ≤ i ∧ i < k + j then 1 else 0
theorem B0 (k j : Nat) : (sdS k j).length = 2 * k := by simp [sdS]
theorem Mu (k : Nat) : List.replicate (2 * k) (0 : Int) = sdS k 0 := by
 apply List.ext_getElem
 ·simp [sdS]
 ·intro i h1 h2;simp only [sdS, List.getElem_replicate, List.getElem_map, List.getElem_range];rw [if_neg (by omega)]
theorem Qw {k j : Nat} (hj : j < k) : (sdS k j).set (k + j) 1 = sdS k (j + 1) := by
 apply List.ext_getElem
 ·simp [sdS]
 ·intro i h1 h2;rw [List.getElem_set];simp only [sdS, List.getElem_map, List.getElem_range]
  by_cases h : k + j = i
  ·rw [if_pos h, if_pos (by omega)]
  ·rw [if_neg h]
   by_cases h3 : k ≤ i ∧ i < k + j
   ·rw [if_pos h3, if_pos (by omega)]
   ·rw [if_neg h3, if_neg (by omega)]
theorem Tk {k v : Nat} (hv : v < k + k) : gi (sdS k k) v = if sdD k v = true then 1 else 0 := by
 rw [cf (by rw [B0]; omega)];simp only [sdS, List.getElem_map, List.getElem_range, sdD, decide_eq_true_iff]
 by_cases h : k ≤ v
 ·rw [if_pos (by omega), if_pos h]
 ·rw [if_neg (by omega), if_neg h]
theorem Tl {k v : Nat} (hv : v < k + k) : gi (List.replicate k (0 : Int) ++ List.replicate k 1) v = if sdD k v = true then 1 else 0 := by
 rw [cf (by simp; omega), List.getElem_append];simp only [sdD, decide_eq_true_iff, List.length_replicate]
 by_cases h : v < k
 ·rw [dif_pos h, if_neg (by omega)]; simp
 ·rw [dif_neg h, if_pos (by omega)]; simp
theorem Ji {N : Net} (hdg : ∀ a, (gl N.ends a).length ≤ 1000) (v : Nat) : (gl (dc N).ends v).length ≤ 1000 := by
 show dg (br N.ends) v ≤ 1000
 by_cases h : v < N.ends.length
 ·rw [ez h]; exact hdg v
 ·obtain ⟨j, hj⟩ : ∃ j, v = j + N.ends.length := ⟨v - N.ends.length, by omega⟩;rw [hj, ey]; exact hdg j
theorem Jh {N : Net} (hs : Sym N.ends) : ∀ v i, v < (dc N).ends.length → i < dg (dc N).ends v → sdD N.ends.length (pt (dc N).ends v i).1.toNat ≠ sdD N.ends.length v := ik hs
theorem Kv (f : NF) (N : Net) (hg : bm N = true) : DCalls Tryz.prog 134 [.agg (bw f N)] (fun r => r = [.own false [.sl true 3 1 ((cvL N).map iC)]]) := by
 obtain ⟨hs, hn, hids, hdg⟩ := fe hg;have hin := Cp hg
 have hrg : ∀ v i, v < N.ends.length → i < (gl N.ends v).length → -1000 ≤ (gp (gl N.ends v) i).1 ∧ (gp (gl N.ends v) i).1 ≤ 1000 := fun v i hv hi => by
  obtain ⟨q1, q2, q3, q4, q5⟩ := w4 hs hv hi;rw [q5]; omega
 have hbd := y5 ⟨false, f.t1, f.o2, f.t2, false, f.t3, false, f.t4⟩ N (by omega) hin (fun v _ => hdg v) hrg;rw [Pd hin] at hbd;have h2n : (2 * (N.ends.length : Int)) = ((2 * N.ends.length : Nat) : Int) := by omega
 have hPl := r7 N;have hzr : dy [.int .i64 0] (2 * N.ends.length) = (sdS N.ends.length 0).map iC := by rw [Ia, Mu]
 have hmp : DCalls Tryz.prog 183 [.agg (netO (dc N)), .c (.sl true 3 1 ((sdS N.ends.length N.ends.length).map iC))] (fun r => r = [.own false [.sl true 3 1 ((nw N).map iC)], .c (.p (.int .i64 (rdM (br N.ends) (sdD N.ends.length) (br N.ends).length : Nat)))]) :=
  zm ⟨true, 103, true, 111, true, 3, true, 3⟩ (dc N) true 3 (sdS N.ends.length N.ends.length) (sdD N.ends.length) hs.dbl (by omega) (Ji hdg) (by rw [B0]; omega) (fun v hv => Tk (by omega)) (Jh hs)
 have hMl := Fc N;obtain ⟨M, hM⟩ : ∃ M, M = nw N := ⟨_, rfl⟩;obtain ⟨p, hp⟩ : ∃ p, p = cvP N := ⟨_, rfl⟩;have hpv : ∀ v, p v = (decide (gi M v ≥ 0) || decide (gi M (v + N.ends.length) ≥ 0)) := fun v => by rw [hp, hM]; rfl
 have hcl : cvL N = ep p N.ends.length := by rw [hp]; rfl
 obtain ⟨R, hR⟩ : ∃ R, R = rdM (br N.ends) (sdD N.ends.length) (br N.ends).length := ⟨_, rfl⟩;rw [← hM, ← hR] at hmp;rw [← hM] at hMl;refine ao Tryz.func134 rfl (by rw [Tryz.ntmps134]; simp) fun w0 => ?_;rw [Tryz.ntmps134];have dX := mh;simp only [b4, bc, Arg.av, bw, b8, ints, ends];refine ab (dR fun K hK => ?_);(repeat refine eV ?_);refine aa (hK _ (wK [1] ?_));clear hK K;refine ab (dR fun K hK => ?_);(repeat refine eV ?_);refine aa (hK _ (wK [1, 3] ?_));clear hK K;have dX := And.intro dX (And.intro @h2n (And.intro @hzr @Int.toNat_natCast));refine ab (dR fun K hK => ?_);(repeat refine eV ?_);have dK := And.intro @h2n (And.intro @hzr @Int.toNat_natCast);refine aa (hK _ (ay [1, 3, 4] ?_));clear hK K;refine ab ?_;refine ab (dR fun K hK => ?_);(repeat refine eV ?_);refine aa (hK _ (wK [1, 3, 4, 5] ?_));clear hK K;refine ae ?_;refine ax (X := Nat) (fun j => j ≤ N.ends.length) (fun j => [(5, .c (.p (.int .i64 ((N.ends.length + j : Nat)))))]) (fun j => [((4, 0), ⟨none, [.sl true 3 1 ((sdS N.ends.length j).map iC)]⟩)]) (fun j => N.ends.length - j) 0 (Nat.zero_le _) (by first | rfl | (simp only [ac, pZ, simprocAttr, Int.natCast_zero, Nat.add_zero] <;> rfl)) ?_;rintro j hj;intro E hE;simp only [ac, pZ, simprocAttr] at hE;subst hE;have hsl := B0 N.ends.length j;refine ab ?_;have dX := And.intro dX (@h2n);refine ab (dR fun K hK => ?_);(repeat refine eV ?_);have dK := @h2n;refine aa (hK _ (ay [1, 3, 4, 5, 20] ?_));clear hK K;refine dI ?_ ?_<;>intro hb
 ·have hj1 : j < N.ends.length := by
   have h : ((N.ends.length + j : Nat) : Int) < ((2 * N.ends.length : Nat) : Int) := by simpa using hb
   omega
  have hset := Qw hj1;have hnj : ((N.ends.length + j : Nat) : Int) + 1 = ((N.ends.length + (j + 1) : Nat) : Int) := by omega
  obtain ⟨x, hx⟩ : ∃ x, x = N.ends.length + j := ⟨_, rfl⟩;rw [← hx] at hset hnj ⊢;refine af ?_;show DW _ _ _ _ _;refine ab (ae ?_);have dX := And.intro dX (@Int.toNat_natCast);refine dR fun K hK => ?_;(repeat refine eV ?_);have dK := And.intro @Int.toNat_natCast (And.intro @pn @hset);refine aa (hK _ (ay [1, 3, 4, 5] ?_));clear hK K;refine dR fun K hK => ?_;(repeat refine eV ?_);have dK := @hnj;refine aa (hK _ ?_);clear hK K;show ∃ x, _ ∧ _ ∧ Weak _ _;refine ⟨j + 1, ?_, ?_, an [1, 3, 4, 5]⟩
  ·omega
  ·omega
 ·have hj2 : j = N.ends.length := by
   have h : ¬ ((N.ends.length + j : Nat) : Int) < ((2 * N.ends.length : Nat) : Int) := by simpa using hb
   omega
  rw [hj2];refine am ?_;refine a7 [1, 3, 4] (by simp only [ac, pZ, simprocAttr]; exact rfl) ?_;refine ab (dR fun K hK => ?_);(repeat refine eV ?_);refine cL rfl ⟨rfl, _, rfl⟩ (by omega) (by first | exact Ch | exact N8) (hbd) ?_;rintro _ rfl;(repeat refine eV ?_);refine cL rfl ⟨rfl, _, rfl⟩ (by omega) (by first | exact Ch | exact N8) (hmp) ?_;rintro _ rfl;(repeat refine eV ?_);refine aa (hK _ (wK [3, 6] ?_));clear hK K;refine ab (dR fun K hK => ?_);(repeat refine eV ?_);refine aa (hK _ (wK [3, 6, 8] ?_));clear hK K;refine ab ?_;refine ab (dR fun K hK => ?_);(repeat refine eV ?_);refine aa (hK _ (wK [3, 6, 8, 9] ?_));clear hK K;refine ae ?_;refine ii 8 3 1 (by decide) (by simp only [ac, pZ, simprocAttr]) [3, 6, 8, 9] (by simp only [ac, pZ, simprocAttr]; exact rfl) ?_;refine ax (X := Nat) (fun v => v ≤ N.ends.length) (fun v => [(9, .c (.p (.int .i64 v)))]) (fun v => [((8, 0), ⟨none, [.sl true 3 1 ((ep p v).map iC)]⟩)]) (fun v => N.ends.length - v) 0 (Nat.zero_le _) (by first | rfl | (simp only [ac, pZ, simprocAttr, Int.natCast_zero] <;> rfl)) ?_;rintro v hv;intro E hE;simp only [ac, pZ, simprocAttr] at hE;subst hE;have hpl := rj p v;refine ab ?_;refine ab (dR fun K hK => ?_);(repeat refine eV ?_);refine aa (hK _ (wK [3, 6, 8, 9, 35] ?_));clear hK K;refine dI ?_ ?_<;>intro hb
  ·have hv1 : v < N.ends.length := by simpa using hb
   have hpe := hpv v;have hvk : (v : Int) + (N.ends.length : Int) = ((v + N.ends.length : Nat) : Int) := by omega
   obtain ⟨x, hx⟩ : ∃ x, x = v + N.ends.length := ⟨_, rfl⟩;rw [← hx] at hpe hvk;refine af ?_;show DW _ _ _ _ _;refine ab (ae ?_);obtain h1 | h1 := Bool.eq_false_or_eq_true (decide (gi M v ≥ 0))
   ·have hy := gg (p := p) (k := v) (by rw [hpe, h1]; rfl);have dX := And.intro dX (And.intro @h1 (And.intro @Int.toNat_natCast @hvk));refine ab (dR fun K hK => ?_);(repeat refine eV ?_);have dK := And.intro @h1 (And.intro @Int.toNat_natCast @hvk);refine aa (hK _ (ay [3, 6, 8, 9, 51] ?_));clear hK K;refine dI ?_ ?_<;>intro hb
    ·refine dR fun K hK => ?_;(repeat refine eV ?_);have dK := @gr;refine aa (hK _ (ay [3, 6, 8, 9] ?_));clear hK K;refine dR fun K hK => ?_;(repeat refine eV ?_);have dK := And.intro @bi @hy;refine aa (hK _ ?_);clear hK K;show ∃ x, _ ∧ _ ∧ Weak _ _;refine ⟨v + 1, ?_, ?_, an [3, 6, 8, 9]⟩
     ·omega
     ·omega
    ·cases hb
   ·obtain h3 | h3 := Bool.eq_false_or_eq_true (decide (gi M x ≥ 0))
    ·have hy := gg (p := p) (k := v) (by rw [hpe, h1, h3]; rfl);have dX := And.intro dX (And.intro @h1 (And.intro @h3 (And.intro @Int.toNat_natCast @hvk)));refine ab (dR fun K hK => ?_);(repeat refine eV ?_);have dK := And.intro @h1 (And.intro @h3 (And.intro @Int.toNat_natCast @hvk));refine aa (hK _ (ay [3, 6, 8, 9, 51] ?_));clear hK K;refine dI ?_ ?_<;>intro hb
     ·refine dR fun K hK => ?_;(repeat refine eV ?_);have dK := @gr;refine aa (hK _ (ay [3, 6, 8, 9] ?_));clear hK K;refine dR fun K hK => ?_;(repeat refine eV ?_);have dK := And.intro @bi @hy;refine aa (hK _ ?_);clear hK K;show ∃ x, _ ∧ _ ∧ Weak _ _;refine ⟨v + 1, ?_, ?_, an [3, 6, 8, 9]⟩
      ·omega
      ·omega
     ·cases hb
    ·have hy := ld (p := p) (k := v) (by rw [hpe, h1, h3]; rfl);have dX := And.intro dX (And.intro @h1 (And.intro @h3 (And.intro @Int.toNat_natCast @hvk)));refine ab (dR fun K hK => ?_);(repeat refine eV ?_);have dK := And.intro @h1 (And.intro @h3 (And.intro @Int.toNat_natCast @hvk));refine aa (hK _ (ay [3, 6, 8, 9, 51] ?_));clear hK K;refine dI ?_ ?_<;>intro hb
     ·cases hb
     ·refine af ?_;show DW _ _ _ _ _;refine dR fun K hK => ?_;(repeat refine eV ?_);have dK := And.intro @bi @hy;refine aa (hK _ ?_);clear hK K;show ∃ x, _ ∧ _ ∧ Weak _ _;refine ⟨v + 1, ?_, ?_, an [3, 6, 8, 9]⟩
      ·omega
      ·omega
  ·have hv2 : v = N.ends.length := by
    have : ¬ v < N.ends.length := by simpa using hb
    omega
   refine am ?_;refine a7 [8] (by simp only [ac, pZ, simprocAttr]; exact rfl) ?_;refine ab (dR fun K hK => ?_);(repeat refine eV ?_);refine aa (hK _ (wK [2] ?_));clear hK K;exact ak (aq Tryz.results134 (.one (.own _ _ _ _ rfl rfl (own1 (bn _ _)))) (by decide) (by rw [hv2, hcl]))
theorem Qc (f : NF) (N : Net) (hg : bm N = true) (hd : bm (dc N) = true) : DCalls Tryz.prog 48 [.agg (bw f N)] (fun r => r = [.own false [.sl true 3 1 ((cvL N).map iC)], .c (.p (.bool true))]) := by
 obtain ⟨hs, hn, hids, hdg⟩ := fe hg;refine ao Tryz.func48 rfl (by rw [Tryz.ntmps48]; simp) fun w0 => ?_;rw [Tryz.ntmps48];have dX := mh;simp only [b4, bc, Arg.av, bw, b8, ints, ends];refine ab (dR fun K hK => ?_);(repeat refine eV ?_);refine aa (hK _ (wK [1] ?_));clear hK K;refine ab ?_;refine ab (dR fun K hK => ?_);(repeat refine eV ?_);refine cL rfl ⟨rfl, _, rfl⟩ (by omega) (by first | exact G3) (n8 ⟨false, f.t1, f.o2, f.t2, false, f.t3, false, f.t4⟩ N hg) ?_;rintro _ rfl;(repeat refine eV ?_);refine aa (hK _ (wK [1, 5] ?_));clear hK K;have dX := And.intro dX (@hd);refine ab (dR fun K hK => ?_);(repeat refine eV ?_);have dK := @hd;refine aa (hK _ (ay [1, 12] ?_));clear hK K;refine dI ?_ ?_<;>intro hb
 ·cases hb
 ·refine af ?_;show DW _ _ _ _ _;refine ab (dR fun K hK => ?_);(repeat refine eV ?_);refine cL rfl ⟨rfl, _, rfl⟩ (by omega) (by first | exact Uc) (Kv ⟨false, f.t1, f.o2, f.t2, false, f.t3, false, f.t4⟩ N hg) ?_;rintro _ rfl;(repeat refine eV ?_);refine aa (hK _ (wK [2, 3] ?_));clear hK K;exact ak (aq Tryz.results48 (.two (.own _ _ _ _ rfl rfl (own1 (bn _ _))) (.plain _ _ rfl)) (by decide) rfl)
theorem H8 (f : NF) (N : Net) (h : bm N = true) (hd : bm (dc N) = false) : DCalls Tryz.prog 48 [.agg (bw f N)] (fun r => r = [.own false [.sl true 3 1 (([] : List Int).map iC)], .c (.p (.bool false))]) := by
 refine ao Tryz.func48 rfl (by rw [Tryz.ntmps48]; simp) fun w0 => ?_;rw [Tryz.ntmps48];have dX := mh;simp only [b4, bc, Arg.av, bw, b8, ints, ends];refine ab (dR fun K hK => ?_);(repeat refine eV ?_);refine aa (hK _ (wK [1] ?_));clear hK K;refine ab ?_;refine ab (dR fun K hK => ?_);(repeat refine eV ?_);refine cL rfl ⟨rfl, _, rfl⟩ (by omega) (by first | exact G3) (n8 ⟨false, f.t1, f.o2, f.t2, false, f.t3, false, f.t4⟩ N h) ?_;rintro _ rfl;(repeat refine eV ?_);refine aa (hK _ (wK [1, 5] ?_));clear hK K;have dX := And.intro dX (@hd);refine ab (dR fun K hK => ?_);(repeat refine eV ?_);have dK := @hd;refine aa (hK _ (ay [1, 12] ?_));clear hK K;refine dI ?_ ?_<;>intro hb
 ·refine ab (dR fun K hK => ?_);(repeat refine eV ?_);refine aa (hK _ (wK [2, 3] ?_));clear hK K;refine ii 2 3 1 (by decide) (by simp only [ac, pZ, simprocAttr]) [2, 3] (by simp only [ac, pZ, simprocAttr]; exact rfl) ?_;exact ak (aq Tryz.results48 (.two (.own _ _ _ _ rfl rfl (own1 (bn _ []))) (.plain _ _ rfl)) (by decide) rfl)
 ·cases hb
theorem Lt (f : NF) (N : Net) (h : bm N = false) : DCalls Tryz.prog 48 [.agg (bw f N)] (fun r => r = [.own false [.sl true 3 1 (([] : List Int).map iC)], .c (.p (.bool false))]) := by
 refine ao Tryz.func48 rfl (by rw [Tryz.ntmps48]; simp) fun w0 => ?_;rw [Tryz.ntmps48];have dX := mh;simp only [b4, bc, Arg.av, bw, b8, ints, ends];refine ab (dR fun K hK => ?_);(repeat refine eV ?_);refine aa (hK _ (wK [1] ?_));clear hK K;refine ab ?_;refine ab (dR fun K hK => ?_);(repeat refine eV ?_);refine cL rfl ⟨rfl, _, rfl⟩ (by omega) (by first | exact G3) (vp ⟨false, f.t1, f.o2, f.t2, false, f.t3, false, f.t4⟩ N h) ?_;rintro _ rfl;(repeat refine eV ?_);refine aa (hK _ (wK [1, 5] ?_));clear hK K;refine ab (dR fun K hK => ?_);(repeat refine eV ?_);refine aa (hK _ (wK [1, 12] ?_));clear hK K;refine dI ?_ ?_<;>intro hb
 ·refine ab (dR fun K hK => ?_);(repeat refine eV ?_);refine aa (hK _ (wK [2, 3] ?_));clear hK K;refine ii 2 3 1 (by decide) (by simp only [ac, pZ, simprocAttr]) [2, 3] (by simp only [ac, pZ, simprocAttr]; exact rfl) ?_;exact ak (aq Tryz.results48 (.two (.own _ _ _ _ rfl rfl (own1 (bn _ []))) (.plain _ _ rfl)) (by decide) rfl)
 ·cases hb
def gb : Nat → Stat
 | 0 => ⟨[4], [(4, 1)], [4], [22], [], []⟩
 | 1 => ⟨[6], [], [], [23], [], []⟩
 | 2 => ⟨[23], [], [], [24], [], []⟩
 | 3 => ⟨[], [], [], [25], [], []⟩
 | 4 => ⟨[6], [], [], [26], [], []⟩
 | 5 => ⟨[25, 26], [(25, 1)], [25], [27], [], []⟩
 | 6 => ⟨[24, 27], [(24, 1), (27, 1)], [24, 27], [28], [(24, 1)], []⟩
 | 7 => ⟨[22, 28], [(28, 1)], [28], [29], [], []⟩
 | 8 => ⟨[29], [], [], [21], [], [(29, 1), (29, 2)]⟩
 | 9 => ⟨[21], [], [], [30], [], [(21, 1)]⟩
 | 10 => ⟨[21], [], [], [31], [], [(21, 2)]⟩
 | 11 => ⟨[30], [], [30], [7], [(30, 1)], []⟩
 | 12 => ⟨[31], [], [], [8], [], []⟩
 | _ => ⟨[], [], [], [], [], []⟩
theorem F1 (f : NF) (N : Net) (hg : bm N = true) (hd : bm (dc N) = true) : DCalls Tryz.prog 47 [.agg (bw f N)] (fun r => r = [.own false [.sl true 3 1 ((cvL N).map iC)], .c (.p (.bool true))]) := by
 obtain ⟨hs, hn, hids, hdg⟩ := fe hg;have hPl := r7 N;have hdc := j4 ⟨false, f.t1, f.o2, f.t2, false, f.t3, false, f.t4⟩ N hg;have hok : okN (dc N) = dc N := by unfold okN; rw [if_pos hd]
 rw [hd, hok] at hdc;obtain ⟨Z, hZ⟩ : ∃ Z, Z = List.replicate N.ends.length (0 : Int) := ⟨_, rfl⟩;have hzr : dy [.int .i64 0] N.ends.length = Z.map iC := by rw [Ia, hZ]
 have hZl : Z.length = N.ends.length := by rw [hZ]; exact List.length_replicate
 obtain ⟨Y, hY⟩ : ∃ Y, Y = List.replicate N.ends.length (1 : Int) := ⟨_, rfl⟩;have hYl : Y.length = N.ends.length := by rw [hY]; exact List.length_replicate
 have hrp := Fz true 3 1 N.ends.length (by omega);rw [← hY] at hrp
 have hmp : DCalls Tryz.prog 131 [.agg (bw NFz (dc N)), .c (.sl true 3 1 ((Z ++ Y).map iC))] (fun r => r = [.own false [.sl true 3 1 ((nw N).map iC)], .c (.p (.int .i64 (rdM (br N.ends) (sdD N.ends.length) (br N.ends).length : Nat)))]) :=
  po NFz (dc N) true 3 (Z ++ Y) (sdD N.ends.length) hs.dbl (by omega) (Ji hdg) (by rw [List.length_append]; omega) (fun v hv => by rw [hZ, hY]; exact Tl (by omega)) (Jh hs)
 have hMl := Fc N;obtain ⟨M, hM⟩ : ∃ M, M = nw N := ⟨_, rfl⟩;obtain ⟨p, hp⟩ : ∃ p, p = cvP N := ⟨_, rfl⟩;have hpv : ∀ v, p v = (decide (gi M v ≥ 0) || decide (gi M (v + N.ends.length) ≥ 0)) := fun v => by rw [hp, hM]; rfl
 have hcl : cvL N = ep p N.ends.length := by rw [hp]; rfl
 obtain ⟨R, hR⟩ : ∃ R, R = rdM (br N.ends) (sdD N.ends.length) (br N.ends).length := ⟨_, rfl⟩;rw [← hM, ← hR] at hmp;rw [← hM] at hMl;refine ao Tryz.func47 rfl (by rw [Tryz.ntmps47]; simp) fun w0 => ?_;rw [Tryz.ntmps47];have dX := mh;simp only [b4, bc, Arg.av, bw, b8, ints, ends];refine ab (dR fun K hK => ?_);(repeat refine eV ?_);refine aa (hK _ (wK [1] ?_));clear hK K;refine ab (dR fun K hK => ?_);(repeat refine eV ?_);refine cL rfl ⟨rfl, _, rfl⟩ (by omega) (by first | exact I7) (hdc) ?_;rintro _ rfl;(repeat refine eV ?_);have dK := @netO.eq_1;refine aa (hK _ (ay [1, 4, 5] ?_));clear hK K;refine t7 4 [1, 4, 5] (by simp only [ac, pZ, simprocAttr]; exact rfl) ?_;refine ab ?_;refine ab (dR fun K hK => ?_);(repeat refine eV ?_);refine aa (hK _ (wK [1, 4, 17] ?_));clear hK K;refine dI ?_ ?_<;>intro hb
 ·cases hb
 ·refine af ?_;show DW _ _ _ _ _;refine ab (dR fun K hK => ?_);(repeat refine eV ?_);refine aa (hK _ (wK [4, 6] ?_));clear hK K;refine ab (fg gb (fun j r => match j with | 5 => r = [.own false [.sl true 3 1 (Y.map iC)]] | 7 => r = [.own false [.sl true 3 1 (M.map iC)], .c (.p (.int .i64 (R : Nat)))] | _ => True) fun K hK => ?_)
  repeat (apply oq; (focus exact rfl); (focus simp (disch := first | omega | (intros; contradiction)) only [ac, bj, ia, pZ, simprocAttr, ap, netO, netZ, b7, bl, az, be, ce, bh, if_pos, bz, bq, bt , gb, ee, fp, hzr, Int.toNat_natCast]); (focus (simp (disch := first | omega | (intros; contradiction)) only [ac, bj, pZ, simprocAttr, ap, netO, netZ, b7, bl, az, be, ce, bh, if_pos, bz, bq, bt , gb, ee, fp, hzr, Int.toNat_natCast]; exact rfl)))
  refine lu rfl ⟨rfl, _, rfl⟩ (by omega) (by first | exact ee | exact fp) (by simp only [ac, bj, ia, pZ, simprocAttr, ap, netO, netZ, b7, bl, az, be, ce, bh, if_pos, bz, bq, bt , gb, ee, fp, hzr, Int.toNat_natCast, gd]) (by simp only [ac, bj, ia, pZ, simprocAttr, ap, netO, netZ, b7, bl, az, be, ce, bh, if_pos, bz, bq, bt , gb, ee, fp, hzr, Int.toNat_natCast, gd]) (by simp only [ac, bj, ia, pZ, simprocAttr, ap, netO, netZ, b7, bl, az, be, ce, bh, if_pos, bz, bq, bt , gb, ee, fp, hzr, Int.toNat_natCast, gd]) (by simp (disch := first | omega | (intros; contradiction)) only [ac, bj, pZ, simprocAttr, ap, netO, netZ, b7, bl, az, be, ce, bh, if_pos, bz, bq, bt , gb, ee, fp, hzr, Int.toNat_natCast, gd] <;> exact rfl) (hrp) rfl ⟨_, rfl⟩ ?_;rintro _ rfl
  repeat (apply oq; (focus exact rfl); (focus simp (disch := first | omega | (intros; contradiction)) only [ac, bj, ia, pZ, simprocAttr, ap, netO, netZ, b7, bl, az, be, ce, bh, if_pos, bz, bq, bt , gb, ee, fp, hzr, Int.toNat_natCast, gd]); (focus (simp (disch := first | omega | (intros; contradiction)) only [ac, bj, pZ, simprocAttr, ap, netO, netZ, b7, bl, az, be, ce, bh, if_pos, bz, bq, bt , gb, ee, fp, hzr, Int.toNat_natCast, gd]; exact rfl)))
  refine lu rfl ⟨rfl, _, rfl⟩ (by omega) (by first | exact ee | exact fp) (by simp only [ac, bj, ia, pZ, simprocAttr, ap, netO, netZ, b7, bl, az, be, ce, bh, if_pos, bz, bq, bt , gb, ee, fp, hzr, Int.toNat_natCast, gd]) (by simp only [ac, bj, ia, pZ, simprocAttr, ap, netO, netZ, b7, bl, az, be, ce, bh, if_pos, bz, bq, bt , gb, ee, fp, hzr, Int.toNat_natCast, gd]) (by simp only [ac, bj, ia, pZ, simprocAttr, ap, netO, netZ, b7, bl, az, be, ce, bh, if_pos, bz, bq, bt , gb, ee, fp, hzr, Int.toNat_natCast, gd]) (by simp (disch := first | omega | (intros; contradiction)) only [ac, bj, pZ, simprocAttr, ap, netO, netZ, b7, bl, az, be, ce, bh, if_pos, bz, bq, bt , gb, ee, fp, hzr, Int.toNat_natCast, gd] <;> exact rfl) (hmp) rfl ⟨_, rfl⟩ ?_;rintro _ rfl
  repeat (apply oq; (focus exact rfl); (focus simp (disch := first | omega | (intros; contradiction)) only [ac, bj, ia, pZ, simprocAttr, ap, netO, netZ, b7, bl, az, be, ce, bh, if_pos, bz, bq, bt , gb, ee, fp, hzr, Int.toNat_natCast, gd]); (focus (simp (disch := first | omega | (intros; contradiction)) only [ac, bj, pZ, simprocAttr, ap, netO, netZ, b7, bl, az, be, ce, bh, if_pos, bz, bq, bt , gb, ee, fp, hzr, Int.toNat_natCast, gd]; exact rfl)))
  refine bg (hK _ (wK [6, 7] ?_));clear hK K;refine ab (dR fun K hK => ?_);(repeat refine eV ?_);refine aa (hK _ (wK [6, 7, 9] ?_));clear hK K;refine ab ?_;refine ab (dR fun K hK => ?_);(repeat refine eV ?_);refine aa (hK _ (wK [6, 7, 9, 32, 33] ?_));clear hK K;refine ae ?_;refine ii 9 3 1 (by decide) (by simp only [ac, pZ, simprocAttr]) [6, 7, 9, 32, 33] (by simp only [ac, pZ, simprocAttr]; exact rfl) ?_;refine ax (X := Nat) (fun v => v ≤ N.ends.length) (fun v => [(33, .c (.p (.int .i64 v)))]) (fun v => [((9, 0), ⟨none, [.sl true 3 1 ((ep p v).map iC)]⟩)]) (fun v => N.ends.length - v) 0 (Nat.zero_le _) (by first | rfl | (simp only [ac, pZ, simprocAttr, Int.natCast_zero] <;> rfl)) ?_;rintro v hv;intro E hE;simp only [ac, pZ, simprocAttr] at hE;subst hE;have hpl := rj p v;refine ab (dR fun K hK => ?_);(repeat refine eV ?_);refine aa (hK _ (wK [6, 7, 9, 32, 33, 34] ?_));clear hK K;refine ab (dI (fun hb => ?_) (fun hb => ?_))
  ·have hv1 : v < N.ends.length := by simpa using hb
   have hpe := hpv v;have hvk : (v : Int) + (N.ends.length : Int) = ((v + N.ends.length : Nat) : Int) := by omega
   obtain ⟨x, hx⟩ : ∃ x, x = v + N.ends.length := ⟨_, rfl⟩;rw [← hx] at hpe hvk;refine af ?_;show DW _ _ _ _ _;refine ab (ae ?_);refine ab (dR fun K hK => ?_);(repeat refine eV ?_);refine aa (hK _ (wK [6, 7, 9, 10, 32, 33] ?_));clear hK K;obtain h1 | h1 := Bool.eq_false_or_eq_true (decide (gi M v ≥ 0))
   ·have hy := gg (p := p) (k := v) (by rw [hpe, h1]; rfl);have dX := And.intro dX (And.intro @h1 (And.intro @Int.toNat_natCast @hvk));refine ab (dR fun K hK => ?_);(repeat refine eV ?_);have dK := And.intro @h1 (And.intro @Int.toNat_natCast @hvk);refine aa (hK _ (ay [6, 7, 9, 10, 32, 33, 49] ?_));clear hK K;refine dI ?_ ?_<;>intro hb
    ·refine dR fun K hK => ?_;(repeat refine eV ?_);have dK := @gr;refine aa (hK _ (ay [6, 7, 9, 32, 33] ?_));clear hK K;refine dR fun K hK => ?_;(repeat refine eV ?_);have dK := And.intro @bi @hy;refine aa (hK _ ?_);clear hK K;show ∃ x, _ ∧ _ ∧ Weak _ _;refine ⟨v + 1, ?_, ?_, an [6, 7, 9, 32, 33]⟩
     ·omega
     ·omega
    ·cases hb
   ·obtain h3 | h3 := Bool.eq_false_or_eq_true (decide (gi M x ≥ 0))
    ·have hy := gg (p := p) (k := v) (by rw [hpe, h1, h3]; rfl);have dX := And.intro dX (And.intro @h1 (And.intro @h3 (And.intro @Int.toNat_natCast @hvk)));refine ab (dR fun K hK => ?_);(repeat refine eV ?_);have dK := And.intro @h1 (And.intro @h3 (And.intro @Int.toNat_natCast @hvk));refine aa (hK _ (ay [6, 7, 9, 10, 32, 33, 49] ?_));clear hK K;refine dI ?_ ?_<;>intro hb
     ·refine dR fun K hK => ?_;(repeat refine eV ?_);have dK := @gr;refine aa (hK _ (ay [6, 7, 9, 32, 33] ?_));clear hK K;refine dR fun K hK => ?_;(repeat refine eV ?_);have dK := And.intro @bi @hy;refine aa (hK _ ?_);clear hK K;show ∃ x, _ ∧ _ ∧ Weak _ _;refine ⟨v + 1, ?_, ?_, an [6, 7, 9, 32, 33]⟩
      ·omega
      ·omega
     ·cases hb
    ·have hy := ld (p := p) (k := v) (by rw [hpe, h1, h3]; rfl);have dX := And.intro dX (And.intro @h1 (And.intro @h3 (And.intro @Int.toNat_natCast @hvk)));refine ab (dR fun K hK => ?_);(repeat refine eV ?_);have dK := And.intro @h1 (And.intro @h3 (And.intro @Int.toNat_natCast @hvk));refine aa (hK _ (ay [6, 7, 9, 10, 32, 33, 49] ?_));clear hK K;refine dI ?_ ?_<;>intro hb
     ·cases hb
     ·refine af ?_;show DW _ _ _ _ _;refine dR fun K hK => ?_;(repeat refine eV ?_);have dK := And.intro @bi @hy;refine aa (hK _ ?_);clear hK K;show ∃ x, _ ∧ _ ∧ Weak _ _;refine ⟨v + 1, ?_, ?_, an [6, 7, 9, 32, 33]⟩
      ·omega
      ·omega
  ·have hv2 : v = N.ends.length := by
    have : ¬ v < N.ends.length := by simpa using hb
    omega
   refine am ?_;refine a7 [9] (by simp only [ac, pZ, simprocAttr]; exact rfl) ?_;refine ab (dR fun K hK => ?_);(repeat refine eV ?_);refine aa (hK _ (wK [2, 3] ?_));clear hK K;exact ak (aq Tryz.results47 (.two (.own _ _ _ _ rfl rfl (own1 (bn _ _))) (.plain _ _ rfl)) (by decide) (by rw [hv2, hcl]))
theorem H9 (f : NF) (N : Net) (h : bm N = true) (hd : bm (dc N) = false) : DCalls Tryz.prog 47 [.agg (bw f N)] (fun r => r = [.own false [.sl true 3 1 (([] : List Int).map iC)], .c (.p (.bool false))]) := by
 have hdc := j4 ⟨false, f.t1, f.o2, f.t2, false, f.t3, false, f.t4⟩ N h;have hok : okN (dc N) = Eg := by unfold okN; rw [if_neg (by rw [hd]; decide)]
 rw [hd, hok] at hdc;refine ao Tryz.func47 rfl (by rw [Tryz.ntmps47]; simp) fun w0 => ?_;rw [Tryz.ntmps47];have dX := mh;simp only [b4, bc, Arg.av, bw, b8, ints, ends];refine ab (dR fun K hK => ?_);(repeat refine eV ?_);refine aa (hK _ (wK [1] ?_));clear hK K;refine ab (dR fun K hK => ?_);(repeat refine eV ?_);refine cL rfl ⟨rfl, _, rfl⟩ (by omega) (by first | exact I7) (hdc) ?_;rintro _ rfl;(repeat refine eV ?_);refine aa (hK _ (wK [1, 4, 5] ?_));clear hK K;refine ab ?_;refine ab (dR fun K hK => ?_);(repeat refine eV ?_);refine aa (hK _ (wK [1, 4, 17] ?_));clear hK K;refine dI ?_ ?_<;>intro hb
 ·refine ab (dR fun K hK => ?_);(repeat refine eV ?_);refine aa (hK _ (wK [2, 3] ?_));clear hK K;refine ii 2 3 1 (by decide) (by simp only [ac, pZ, simprocAttr]) [2, 3] (by simp only [ac, pZ, simprocAttr]; exact rfl) ?_;exact ak (aq Tryz.results47 (.two (.own _ _ _ _ rfl rfl (own1 (bn _ []))) (.plain _ _ rfl)) (by decide) rfl)
 ·cases hb
theorem Lu (f : NF) (N : Net) (hi : N.ids.length ≤ 2097152) (h : bm N = false) : DCalls Tryz.prog 47 [.agg (bw f N)] (fun r => r = [.own false [.sl true 3 1 (([] : List Int).map iC)], .c (.p (.bool false))]) := by
 refine ao Tryz.func47 rfl (by rw [Tryz.ntmps47]; simp) fun w0 => ?_;rw [Tryz.ntmps47];have dX := mh;simp only [b4, bc, Arg.av, bw, b8, ints, ends];refine ab (dR fun K hK => ?_);(repeat refine eV ?_);refine aa (hK _ (wK [1] ?_));clear hK K;refine ab (dR fun K hK => ?_);(repeat refine eV ?_);refine cL rfl ⟨rfl, _, rfl⟩ (by omega) (by first | exact I7) (vq ⟨false, f.t1, f.o2, f.t2, false, f.t3, false, f.t4⟩ N hi h) ?_;rintro _ rfl;(repeat refine eV ?_);refine aa (hK _ (wK [1, 4, 5] ?_));clear hK K;refine ab ?_;refine ab (dR fun K hK => ?_);(repeat refine eV ?_);refine aa (hK _ (wK [1, 4, 17] ?_));clear hK K;refine dI ?_ ?_<;>intro hb
 ·refine ab (dR fun K hK => ?_);(repeat refine eV ?_);refine aa (hK _ (wK [2, 3] ?_));clear hK K;refine ii 2 3 1 (by decide) (by simp only [ac, pZ, simprocAttr]) [2, 3] (by simp only [ac, pZ, simprocAttr]; exact rfl) ?_;exact ak (aq Tryz.results47 (.two (.own _ _ _ _ rfl rfl (own1 (bn _ []))) (.plain _ _ rfl)) (by decide) rfl)
 ·cases hb
end
end Go.Proofs.YtolpiolnhgpjjaaGreat

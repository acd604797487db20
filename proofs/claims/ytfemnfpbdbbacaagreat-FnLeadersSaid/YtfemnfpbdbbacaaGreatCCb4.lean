/- Double covers in program and reference, over data -/
import Derived.Test.YtfemnfpbdbbacaaGreatCJn27
import Derived.Test.YtfemnfpbdbbacaaGreatCJn11
import Derived.Test.YtfemnfpbdbbacaaGreatCDgw
import Derived.Test.YtfemnfpbdbbacaaGreatCJn40
import Derived.Test.YtfemnfpbdbbacaaGreatCJn13
import Derived.Test.YtfemnfpbdbbacaaGreatCJn6
import Derived.Test.YtfemnfpbdbbacaaGreatCDix
import Derived.Test.YtfemnfpbdbbacaaGreatCJn31
import Derived.Test.YtfemnfpbdbbacaaGreatCJn8
import Derived.Test.YtfemnfpbdbbacaaGreatCJn29
import Derived.Test.YtfemnfpbdbbacaaGreatCJn43
import Derived.Test.YtfemnfpbdbbacaaGreatCDso
import Derived.Test.YtfemnfpbdbbacaaGreatCDcu
set_option linter.unusedSimpArgs false
set_option linter.unusedVariables false
namespace Go.Proofs.YtfemnfpbdbbacaaGreat
open Go Go.RowKit
def fg (N : Net) : Net := ⟨ng N.ends, [], N.inputs ++ N.inputs⟩
theorem Zl (E : List (List (Int × Int))) : fe E E.length 0 = ng E := by
 have hc : ∀ k, k < E.length → q7 E E.length 0 k = (gl E k).length := fun k hk => by unfold q7; rw [if_pos hk]
 apply List.ext_getElem
 ·rw [gb, Fw]; omega
 ·intro j h1 h2;rw [gb] at h1;have hl2 : j < (ng E).length := h2;rw [← ij hl2];simp only [fe, List.getElem_map, List.getElem_range]
  by_cases hj : j < E.length
  ·rw [if_pos hj, Fy hj, hc j hj, List.take_length]
  ·rw [if_neg hj];obtain ⟨k, hk⟩ : ∃ k, j = k + E.length := ⟨j - E.length, by omega⟩;subst hk;rw [Nat.add_sub_cancel, Fx, hc k (by omega), List.take_length]
theorem pu (N : Net) : (fg N).ends.length = N.ends.length + N.ends.length := Fw
theorem lw {N : Net} (hg : bb N = true) : N.inputs.length = N.ends.length := (dl.1 hg).2.2.1
theorem Ig {N : Net} (hg : bb N = true) (h : 2 * N.ends.length ≤ 40) : bb (fg N) = true := by
 obtain ⟨h1, h2, h3, h4, h5⟩ := dl.1 hg;obtain ⟨h6, h7⟩ := jc.1 h5;have h8 := df.1 h1;have hl := pu N;refine dl.2 ⟨df.2 (by rw [hl]; omega), rfl, by rw [hl]; show (N.inputs ++ N.inputs).length = _; rw [List.length_append]; omega, ?_, jc.2 ⟨fun k hk => ?_, h7.dbl⟩⟩
 ·show (N.inputs ++ N.inputs).all (fun n => inB n 0 9) = true;rw [List.all_append];have h9 : N.inputs.all (fun n => inB n 0 9) = true := h4;rw [h9]; rfl
 ·rw [hl] at hk;show dg (ng N.ends) k ≤ 6
  by_cases hk2 : k < N.ends.length
  ·rw [uv hk2]; exact h6 k hk2
  ·obtain ⟨j, hj⟩ : ∃ j, k = j + N.ends.length := ⟨k - N.ends.length, by omega⟩;subst hj;rw [zg]; exact h6 j (by omega)
def uu : Nat → Stat
 | 0 => ⟨[4], [], [], [17], [], []⟩
 | 1 => ⟨[17], [], [], [18], [], []⟩
 | 2 => ⟨[18], [], [], [19], [], []⟩
 | 3 => ⟨[1], [(1, 1)], [], [20], [], []⟩
 | 4 => ⟨[20], [(1, 1)], [], [21], [], []⟩
 | 5 => ⟨[1], [(1, 1)], [], [22], [], []⟩
 | 6 => ⟨[22], [(1, 1)], [], [23], [], []⟩
 | 7 => ⟨[21, 23], [], [], [24], [], []⟩
 | 8 => ⟨[24], [(24, 1), (24, 2)], [24], [25], [], []⟩
 | 9 => ⟨[19, 25], [], [19, 25], [26], [(19, 1), (25, 1), (26, 1)], []⟩
 | 10 => ⟨[], [], [], [5], [], []⟩
 | 11 => ⟨[5, 26], [(5, 1)], [26], [], [(5, 1), (26, 1)], []⟩
 | _ => ⟨[], [], [], [], [], []⟩
def dcSt11 : Nat → Stat
 | 0 => ⟨[5], [(5, 1)], [], [41], [], []⟩
 | 1 => ⟨[41], [(5, 1)], [], [42], [], []⟩
 | 2 => ⟨[6], [], [], [43], [], []⟩
 | 3 => ⟨[5], [(5, 1)], [], [44], [], []⟩
 | 4 => ⟨[44], [(5, 1)], [], [45], [], []⟩
 | 5 => ⟨[6], [], [], [46], [], []⟩
 | 6 => ⟨[45, 46], [(5, 1)], [], [47], [], []⟩
 | 7 => ⟨[47], [(5, 2)], [], [48], [], []⟩
 | 8 => ⟨[9], [(9, 1)], [], [49], [], []⟩
 | 9 => ⟨[49], [(9, 1)], [], [50], [], []⟩
 | 10 => ⟨[4], [], [], [51], [], []⟩
 | 11 => ⟨[50, 51], [], [], [52], [], []⟩
 | 12 => ⟨[9], [(9, 1)], [], [53], [], []⟩
 | 13 => ⟨[53], [(9, 1)], [], [54], [], []⟩
 | 14 => ⟨[52, 54], [], [], [55], [], []⟩
 | 15 => ⟨[55], [], [], [56], [], []⟩
 | 16 => ⟨[48, 56], [(5, 2), (56, 1)], [5, 56], [57], [(5, 2)], []⟩
 | 17 => ⟨[42, 43], [(5, 1)], [], [58], [], []⟩
 | 18 => ⟨[58, 57], [(5, 2)], [57], [], [(5, 2), (57, 1)], []⟩
 | _ => ⟨[], [], [], [], [], []⟩
def dcSt12 : Nat → Stat
 | 0 => ⟨[5], [(5, 1)], [], [59], [], []⟩
 | 1 => ⟨[59], [(5, 1)], [], [60], [], []⟩
 | 2 => ⟨[6], [], [], [61], [], []⟩
 | 3 => ⟨[4], [], [], [62], [], []⟩
 | 4 => ⟨[61, 62], [], [], [63], [], []⟩
 | 5 => ⟨[5], [(5, 1)], [], [64], [], []⟩
 | 6 => ⟨[64], [(5, 1)], [], [65], [], []⟩
 | 7 => ⟨[6], [], [], [66], [], []⟩
 | 8 => ⟨[4], [], [], [67], [], []⟩
 | 9 => ⟨[66, 67], [], [], [68], [], []⟩
 | 10 => ⟨[65, 68], [(5, 1)], [], [69], [], []⟩
 | 11 => ⟨[69], [(5, 2)], [], [70], [], []⟩
 | 12 => ⟨[9], [(9, 1)], [], [71], [], []⟩
 | 13 => ⟨[71], [], [], [72], [], []⟩
 | 14 => ⟨[70, 72], [(5, 2), (72, 1)], [5, 72], [73], [(5, 2)], []⟩
 | 15 => ⟨[60, 63], [(5, 1)], [], [74], [], []⟩
 | 16 => ⟨[74, 73], [(5, 2)], [73], [], [(5, 2), (73, 1)], []⟩
 | _ => ⟨[], [], [], [], [], []⟩
def zBCb41 := PLift.up (And.intro ap (And.intro @netO.eq_1 (And.intro @bt (And.intro bl (And.intro bw (And.intro b6 (And.intro b4 (And.intro a7 (And.intro jn (And.intro @if_pos.{1} (And.intro @cg (And.intro @cf (And.intro @bi @trivial)))))))))))))
theorem Zk : type_of% zBCb41.down := zBCb41.down
set_option maxRecDepth 8000 in
set_option maxHeartbeats 0 in
theorem i7 (f : NF) (N : Net) (hg : bb N = true) : DCalls Tryz.prog 14 [.agg (br f N)] (fun r => r = [.own true (netO (okN (fg N))), .c (.p (.bool (bb (fg N))))]) := by
 obtain ⟨hs, hn, hids, hdg⟩ := ew hg;have hin := lw hg;have h2n : (2 * (N.ends.length : Int)) = ((2 * N.ends.length : Nat) : Int) := by omega
 have hd0 : List.replicate (2 * N.ends.length) ([] : List (Int × Int)) = fe N.ends 0 0 := congrArg Net.ends (jbo N);have hLl : ([N.inputs, N.inputs] : List (List Int)).length = 2 := rfl;have hls : lnS [N.inputs, N.inputs] 2 = N.inputs.length + N.inputs.length := by simp [lnS]
 have hjs : jnS [N.inputs, N.inputs] 2 = N.inputs ++ N.inputs := by simp [jnS]
 have hco := Ud true false 25 f.t4 [N.inputs, N.inputs] (by rw [hLl, hls]; omega) (by rw [hLl]; omega) (fun k hk => by
  rw [hLl] at hk
  match k, hk with
  | 0, _ => simp [lnS]
  | 1, _ => simp [lnS]; omega
  | 2, _ => rw [hls]; omega)
 rw [hLl, hjs] at hco
 have hrg : ∀ v i, v < N.ends.length → i < (gl N.ends v).length → -1000 ≤ (gp (gl N.ends v) i).1 ∧ (gp (gl N.ends v) i).1 ≤ 1000 := fun v i hv hi => by
  obtain ⟨q1, q2, q3, q4, q5⟩ := ej hs hv hi;rw [q5]; omega
 refine ao Tryz.func14 rfl (by rw [Tryz.ntmps14]; simp) fun w0 => ?_;rw [Tryz.ntmps14];have dX := Zk;simp only [b7, bf, Arg.av, br, ch, ints, ends];refine ab (dR fun K hK => ?_);(repeat refine eV ?_);refine aa (hK _ (wK [1, 2] ?_));clear hK K;refine ab ?_;refine ab (dR fun K hK => ?_);(repeat refine eV ?_);refine cL rfl ⟨rfl, _, rfl⟩ (by omega) (by first | exact jw) (eg ⟨false, f.t1, f.o2, f.t2, false, f.t3, false, f.t4⟩ N (by omega)) ?_;rintro _ rfl;(repeat refine eV ?_);have dK := @hg;refine aa (hK _ (az [1, 2, 12] ?_));clear hK K;refine dI ?_ ?_<;>intro hb
 ·cases hb
 ·refine ah ?_;show DW _ _ _ _ _;refine ab (dR fun K hK => ?_);(repeat refine eV ?_);refine aa (hK _ (wK [1, 2, 4] ?_));clear hK K;refine ab (ec uu (fun j r => match j with | 8 => r = [.own false [.sl true 3 1 ((N.inputs ++ N.inputs).map iC)]] | _ => True) fun K hK => ?_)
  repeat (apply zf; (focus exact rfl); (focus simp (disch := first | omega | (intros; contradiction)) only [ac, bd, ma, pZ, simprocAttr, ap, netO, bt, bl, bw, b6, b4, a7, jn, if_pos, cg, cf, bi , uu, uh, h2n, zi, Int.toNat_natCast]); (focus (simp (disch := first | omega | (intros; contradiction)) only [ac, bd, pZ, simprocAttr, ap, netO, bt, bl, bw, b6, b4, a7, jn, if_pos, cg, cf, bi , uu, uh, h2n, zi, Int.toNat_natCast]; exact rfl)))
  refine xc rfl ⟨rfl, _, rfl⟩ (by omega) (by first | exact uh) (by simp only [ac, bd, ma, pZ, simprocAttr, ap, netO, bt, bl, bw, b6, b4, a7, jn, if_pos, cg, cf, bi , uu, uh, h2n, zi, Int.toNat_natCast]) (by simp only [ac, bd, ma, pZ, simprocAttr, ap, netO, bt, bl, bw, b6, b4, a7, jn, if_pos, cg, cf, bi , uu, uh, h2n, zi, Int.toNat_natCast]) (by simp only [ac, bd, ma, pZ, simprocAttr, ap, netO, bt, bl, bw, b6, b4, a7, jn, if_pos, cg, cf, bi , uu, uh, h2n, zi, Int.toNat_natCast]) (by simp (disch := first | omega | (intros; contradiction)) only [ac, bd, pZ, simprocAttr, ap, netO, bt, bl, bw, b6, b4, a7, jn, if_pos, cg, cf, bi , uu, uh, h2n, zi, Int.toNat_natCast] <;> exact rfl) (hco) rfl ⟨_, rfl⟩ ?_;rintro _ rfl
  repeat (apply zf; (focus exact rfl); (focus simp (disch := first | omega | (intros; contradiction)) only [ac, bd, ma, pZ, simprocAttr, ap, netO, bt, bl, bw, b6, b4, a7, jn, if_pos, cg, cf, bi , uu, uh, h2n, zi, Int.toNat_natCast]); (focus (simp (disch := first | omega | (intros; contradiction)) only [ac, bd, pZ, simprocAttr, ap, netO, bt, bl, bw, b6, b4, a7, jn, if_pos, cg, cf, bi , uu, uh, h2n, zi, Int.toNat_natCast]; exact rfl)))
  have dK := And.intro @h2n (And.intro @zi @Int.toNat_natCast);refine aw (hK _ (az [1, 2, 4, 5] ?_));clear hK K;refine Nh 5 0 50 2 (by decide) rfl rfl [1, 2, 4, 5] (by simp only [ac, pZ, simprocAttr, List.modify_zero_cons, List.modify_succ_cons, zes, hd0]; exact rfl) ?_;refine fq 5 1 3 1 (by decide) rfl rfl [1, 2, 4, 5] (by simp only [ac, pZ, simprocAttr, List.modify_zero_cons, List.modify_succ_cons]; exact rfl) ?_;refine ab ?_;refine ab (dR fun K hK => ?_);(repeat refine eV ?_);refine aa (hK _ (wK [2, 4, 5, 28, 29, 30] ?_));clear hK K;refine ae ?_;refine au (X := Nat) (fun v => v ≤ N.ends.length) (fun v => [(30, .c (.p (.int .i64 v)))]) (fun v => [((5, 0), ⟨some 27, [.sl true 48 1 ((fe N.ends v 0).map (esC 50)), .sl true 3 1 (([] : List Int).map iC), .sl true 3 1 ((N.inputs ++ N.inputs).map iC)]⟩)]) (fun v => N.ends.length - v) 0 (Nat.zero_le _) (by first | rfl | (simp only [ac, pZ, simprocAttr, Int.natCast_zero] <;> rfl)) ?_;rintro v hv;intro E hE;simp only [ac, pZ, simprocAttr] at hE;subst hE;refine ab (dR fun K hK => ?_);(repeat refine eV ?_);refine aa (hK _ (wK [2, 4, 5, 28, 29, 30, 31] ?_));clear hK K;refine ab (dI (fun hb => ?_) (fun hb => ?_))
  ·have hvn : v < N.ends.length := by simpa using hb
   have hdv := hdg v;refine ah ?_;show DW _ _ _ _ _;refine ab (ae ?_);refine ab (dR fun K hK => ?_);(repeat refine eV ?_);refine aa (hK _ (wK [2, 4, 5, 6, 7, 28, 29, 30] ?_));clear hK K;refine ab (dR fun K hK => ?_);(repeat refine eV ?_);refine aa (hK _ (wK [2, 4, 5, 6, 28, 29, 30, 35, 36, 37] ?_));clear hK K;refine ae ?_;refine au (X := Nat) (fun i => i ≤ (gl N.ends v).length) (fun i => [(37, .c (.p (.int .i64 i)))]) (fun i => [((5, 0), ⟨some 27, [.sl true 48 1 ((fe N.ends v i).map (esC 50)), .sl true 3 1 (([] : List Int).map iC), .sl true 3 1 ((N.inputs ++ N.inputs).map iC)]⟩)]) (fun i => (gl N.ends v).length - i) 0 (Nat.zero_le _) (by first | rfl | (simp only [ac, pZ, simprocAttr, Int.natCast_zero] <;> rfl)) ?_;rintro i hi;intro E hE;simp only [ac, pZ, simprocAttr] at hE;subst hE;refine ab (dR fun K hK => ?_);(repeat refine eV ?_);refine aa (hK _ (wK [2, 4, 5, 6, 28, 29, 30, 35, 36, 37, 38] ?_));clear hK K;refine ab (dI (fun hb => ?_) (fun hb => ?_))
   ·have hil : i < (gl N.ends v).length := by simpa using hb
    have hr := hrg v i hvn hil;have hl1 := gb N.ends v i;have hlo := Bw hvn hi;have hhi := Bx hvn hi;refine ah ?_;show DW _ _ _ _ _;refine ab (ae ?_);refine ab (dR fun K hK => ?_);(repeat refine eV ?_);refine aa (hK _ (wK [2, 4, 5, 6, 9, 28, 29, 30, 35, 36, 37] ?_));clear hK K;have dX := And.intro dX (And.intro @dcSt11.eq_def (And.intro @ey (And.intro @nu (And.intro @hl1 (And.intro @hlo (And.intro @List.length_append.{0} @List.length_modify.{0}))))));refine ab (ec dcSt11 (fun j r => match j with | _ => True) fun K hK => ?_);(repeat refine dV ?_);have dK := And.intro @ji @j3;refine aw (hK _ (az [2, 4, 5, 6, 9, 28, 29, 30, 35, 36, 37] ?_));clear hK K;have hnx := Ir hvn hil rfl
    generalize hx : v + N.ends.length = x at *
    have hx' : ((v : Int) + (N.ends.length : Int)) = (x : Int) := by omega
    have hls : ∀ A, x < ((fe N.ends v i).set v A).length := fun A => by rw [List.length_set, hl1]; omega
    have hrw : ∀ A t2, bu (((fe N.ends v i).set v A).map (esC t2)) x 0 = some (.sl true t2 2 ((gl (fe N.ends v i) x).map eC)) := fun A t2 => by rw [ey (hls A), qs (by omega)]
    have hrm : ∀ A t2 y, bu ((((fe N.ends v i).set v A).map (esC t2)).modify x fun row => row.modify 0 fun _ => y) x 0 = some y := fun A t2 y => nu (hls A);have dX := And.intro dX (And.intro @dcSt12.eq_def (And.intro @hx' (And.intro @hrw (And.intro @hrm (And.intro @hl1 (And.intro @hhi (And.intro @List.length_append.{0} (And.intro @List.length_modify.{0} @List.length_set.{0}))))))));refine ec dcSt12 (fun j r => match j with | _ => True) fun K hK => ?_;(repeat refine dV ?_);have dK := And.intro @ji (And.intro @j3 (And.intro @qs @hnx));refine aw (hK _ (az [2, 4, 5, 6, 28, 29, 30, 35, 36, 37] ?_));clear hK K;refine dR fun K hK => ?_;(repeat refine eV ?_);have dK := @bp;refine aa (hK _ ?_);clear hK K;show ∃ x, _ ∧ _ ∧ Weak _ _;refine ⟨i + 1, ?_, ?_, a6 [2, 4, 5, 6, 28, 29, 30, 35, 36, 37]⟩
    ·omega
    ·omega
   ·have hil : i = (gl N.ends v).length := by
     have : ¬ i < (gl N.ends v).length := by simpa using hb
     omega
    have hfull : fe N.ends v i = fe N.ends (v + 1) 0 := by rw [hil]; exact Eg
    rw [hfull];refine an ?_;refine ba [2, 4, 5, 28, 29, 30] (by simp only [ac, pZ, simprocAttr]; exact rfl) ?_;refine dR fun K hK => ?_;(repeat refine eV ?_);have dK := @bp;refine aa (hK _ ?_);clear hK K;show ∃ x, _ ∧ _ ∧ Weak _ _;refine ⟨v + 1, ?_, ?_, a6 [2, 4, 5, 28, 29, 30]⟩
    ·omega
    ·omega
  ·have hvn : v = N.ends.length := by
    have : ¬ v < N.ends.length := by simpa using hb
    omega
   rw [hvn, Zl];refine an ?_;refine ba [2, 5] (by simp only [ac, pZ, simprocAttr]; exact rfl) ?_;refine ab (dR fun K hK => ?_);(repeat refine eV ?_);refine gmF rfl ⟨rfl, _, rfl⟩ (by omega) (by first | exact jbb) (O2 (fg N) (Nat.zero_le _)) ?_;rintro _ rfl;refine Pn ?_;(repeat refine eV ?_);have dK := @netO.eq_1;refine aa (hK _ (az [2, 3] ?_));clear hK K;exact aj (am Tryz.results14 (.two (.cell 2 _ _ _ _ rfl rfl ap rfl rfl (ax _)) (.plain _ _ rfl)) (by decide) rfl)
end Go.Proofs.YtfemnfpbdbbacaaGreat

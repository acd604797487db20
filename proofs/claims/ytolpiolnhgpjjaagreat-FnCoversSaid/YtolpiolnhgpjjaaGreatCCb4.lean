/- Double covers in program and reference, over data -/
import Derived.Test.YtolpiolnhgpjjaaGreatCJn26
import Derived.Test.YtolpiolnhgpjjaaGreatCJn15
import Derived.Test.YtolpiolnhgpjjaaGreatCDgw
import Derived.Test.YtolpiolnhgpjjaaGreatCDpq
import Derived.Test.YtolpiolnhgpjjaaGreatCJn39
import Derived.Test.YtolpiolnhgpjjaaGreatCJn28
import Derived.Test.YtolpiolnhgpjjaaGreatCJn21
import Derived.Test.YtolpiolnhgpjjaaGreatCShelf
import Derived.Test.YtolpiolnhgpjjaaGreatCJn31
import Derived.Test.YtolpiolnhgpjjaaGreatCDt
import Derived.Test.YtolpiolnhgpjjaaGreatCDcu
set_option linter.unusedSimpArgs false
set_option linter.unusedVariables false
namespace Go.Proofs.YtolpiolnhgpjjaaGreat
set_option maxHeartbeats 0
set_option maxRecDepth 8000
open Go Go.RowKit
def dc (N : Net) : Net := ⟨br N.ends, [], N.inputs ++ N.inputs⟩
theorem Pc (E : List (List (Int × Int))) : e8 E E.length 0 = br E := by
 have hc : ∀ k, k < E.length → oz E E.length 0 k = (gl E k).length := fun k hk => by unfold oz; rw [if_pos hk]
 apply List.ext_getElem
 ·rw [ft, d7]; omega
 ·intro j h1 h2;rw [ft] at h1;have hl2 : j < (br E).length := h2;rw [← gj hl2];simp only [e8, List.getElem_map, List.getElem_range]
  by_cases hj : j < E.length
  ·rw [if_pos hj, C3 hj, hc j hj, List.take_length]
  ·rw [if_neg hj];obtain ⟨k, hk⟩ : ∃ k, j = k + E.length := ⟨j - E.length, by omega⟩;subst hk;rw [Nat.add_sub_cancel, C2, hc k (by omega), List.take_length]
theorem Pe {N : Net} (h : N.inputs.length = N.ends.length) : zp N N.ends.length = N.inputs ++ N.inputs := by
 apply List.ext_getElem
 ·rw [r8, List.length_append]; omega
 ·intro j h1 h2;rw [r8] at h1;simp only [zp, List.getElem_map, List.getElem_range]
  by_cases hj : j < N.ends.length
  ·rw [if_pos hj, if_pos hj, List.getElem_append_left (by omega), cf (by omega)]
  ·rw [if_neg hj, if_pos (by omega), List.getElem_append_right (by omega), cf (by omega)];simp only [h]
theorem Pd {N : Net} (h : N.inputs.length = N.ends.length) : mu N N.ends.length = dc N := by
 unfold mu dc;rw [Pc, Pe h]
theorem r7 (N : Net) : (dc N).ends.length = N.ends.length + N.ends.length := d7
theorem Cp {N : Net} (hg : bm N = true) : N.inputs.length = N.ends.length := (er.1 hg).2.2.1
theorem Oz {N : Net} (hg : bm N = true) (h : 2 * N.ends.length ≤ 40) : bm (dc N) = true := by
 obtain ⟨h1, h2, h3, h4, h5⟩ := er.1 hg;obtain ⟨h6, h7⟩ := qe.1 h5;have h8 := dz.1 h1;have hl := r7 N;refine er.2 ⟨dz.2 (by rw [hl]; omega), rfl, by rw [hl]; show (N.inputs ++ N.inputs).length = _; rw [List.length_append]; omega, ?_, qe.2 ⟨fun k hk => ?_, h7.dbl⟩⟩
 ·show (N.inputs ++ N.inputs).all (fun n => inB n 0 9) = true;rw [List.all_append];have h9 : N.inputs.all (fun n => inB n 0 9) = true := h4;rw [h9]; rfl
 ·rw [hl] at hk;show dg (br N.ends) k ≤ 6
  by_cases hk2 : k < N.ends.length
  ·rw [ez hk2]; exact h6 k hk2
  ·obtain ⟨j, hj⟩ : ∃ j, k = j + N.ends.length := ⟨k - N.ends.length, by omega⟩;subst hj;rw [ey]; exact h6 j (by omega)
def r6 : Nat → Stat
 | 0 => ⟨[4], [], [], [17], [], []⟩
 | 1 => ⟨[17], [], [], [18], [], []⟩
 | 2 => ⟨[18], [], [], [19], [], []⟩
 | 3 => ⟨[1], [(1, 1)], [], [20], [], []⟩
 | 4 => ⟨[20], [(1, 1)], [], [21], [], []⟩
 | 5 => ⟨[1], [(1, 1)], [], [22], [], []⟩
 | 6 => ⟨[22], [(1, 1)], [], [23], [], []⟩
 | 7 => ⟨[21, 23], [], [], [24], [], []⟩
 | 8 => ⟨[24], [(24, 1), (24, 2)], [24], [25], [], []⟩
 | 9 => ⟨[19, 25], [], [19, 25], [26], [(19, 1), (25, 1), (26, 1)], []⟩
 | 10 => ⟨[], [], [], [5], [], []⟩
 | 11 => ⟨[5, 26], [(5, 1)], [26], [], [(5, 1), (26, 1)], []⟩
 | _ => ⟨[], [], [], [], [], []⟩
def dcSt11 : Nat → Stat
 | 0 => ⟨[5], [(5, 1)], [], [41], [], []⟩
 | 1 => ⟨[41], [(5, 1)], [], [42], [], []⟩
 | 2 => ⟨[6], [], [], [43], [], []⟩
 | 3 => ⟨[5], [(5, 1)], [], [44], [], []⟩
 | 4 => ⟨[44], [(5, 1)], [], [45], [], []⟩
 | 5 => ⟨[6], [], [], [46], [], []⟩
 | 6 => ⟨[45, 46], [(5, 1)], [], [47], [], []⟩
 | 7 => ⟨[47], [(5, 2)], [], [48], [], []⟩
 | 8 => ⟨[9], [(9, 1)], [], [49], [], []⟩
 | 9 => ⟨[49], [(9, 1)], [], [50], [], []⟩
 | 10 => ⟨[4], [], [], [51], [], []⟩
 | 11 => ⟨[50, 51], [], [], [52], [], []⟩
 | 12 => ⟨[9], [(9, 1)], [], [53], [], []⟩
 | 13 => ⟨[53], [(9, 1)], [], [54], [], []⟩
 | 14 => ⟨[52, 54], [], [], [55], [], []⟩
 | 15 => ⟨[55], [], [], [56], [], []⟩
 | 16 => ⟨[48, 56], [(5, 2), (56, 1)], [5, 56], [57], [(5, 2)], []⟩
 | 17 => ⟨[42, 43], [(5, 1)], [], [58], [], []⟩
 | 18 => ⟨[58, 57], [(5, 2)], [57], [], [(5, 2), (57, 1)], []⟩
 | _ => ⟨[], [], [], [], [], []⟩
def dcSt12 : Nat → Stat
 | 0 => ⟨[5], [(5, 1)], [], [59], [], []⟩
 | 1 => ⟨[59], [(5, 1)], [], [60], [], []⟩
 | 2 => ⟨[6], [], [], [61], [], []⟩
 | 3 => ⟨[4], [], [], [62], [], []⟩
 | 4 => ⟨[61, 62], [], [], [63], [], []⟩
 | 5 => ⟨[5], [(5, 1)], [], [64], [], []⟩
 | 6 => ⟨[64], [(5, 1)], [], [65], [], []⟩
 | 7 => ⟨[6], [], [], [66], [], []⟩
 | 8 => ⟨[4], [], [], [67], [], []⟩
 | 9 => ⟨[66, 67], [], [], [68], [], []⟩
 | 10 => ⟨[65, 68], [(5, 1)], [], [69], [], []⟩
 | 11 => ⟨[69], [(5, 2)], [], [70], [], []⟩
 | 12 => ⟨[9], [(9, 1)], [], [71], [], []⟩
 | 13 => ⟨[71], [], [], [72], [], []⟩
 | 14 => ⟨[70, 72], [(5, 2), (72, 1)], [5, 72], [73], [(5, 2)], []⟩
 | 15 => ⟨[60, 63], [(5, 1)], [], [74], [], []⟩
 | 16 => ⟨[74, 73], [(5, 2)], [73], [], [(5, 2), (73, 1)], []⟩
 | _ => ⟨[], [], [], [], [], []⟩
def zBCb41 := PLift.up (And.intro ap (And.intro @netO.eq_1 (And.intro @b7 (And.intro bl (And.intro az (And.intro be (And.intro ce (And.intro bh (And.intro ew (And.intro @if_pos.{1} (And.intro @dm (And.intro @dl (And.intro @bz @trivial)))))))))))))
theorem Pb : type_of% zBCb41.down := zBCb41.down
theorem j4 (f : NF) (N : Net) (hg : bm N = true) : DCalls Tryz.prog 52 [.agg (bw f N)] (fun r => r = [.own true (netO (okN (dc N))), .c (.p (.bool (bm (dc N))))]) := by
 obtain ⟨hs, hn, hids, hdg⟩ := fe hg;have hin := Cp hg;have h2n : (2 * (N.ends.length : Int)) = ((2 * N.ends.length : Nat) : Int) := by omega
 have hd0 : List.replicate (2 * N.ends.length) ([] : List (Int × Int)) = e8 N.ends 0 0 := congrArg Net.ends (Wy N);have hLl : ([N.inputs, N.inputs] : List (List Int)).length = 2 := rfl;have hls : lnS [N.inputs, N.inputs] 2 = N.inputs.length + N.inputs.length := by simp [lnS]
 have hjs : jnS [N.inputs, N.inputs] 2 = N.inputs ++ N.inputs := by simp [jnS]
 have hco := Qd true false 25 f.t4 [N.inputs, N.inputs] (by rw [hLl, hls]; omega) (by rw [hLl]; omega) (fun k hk => by
  rw [hLl] at hk
  match k, hk with
  | 0, _ => simp [lnS]
  | 1, _ => simp [lnS]; omega
  | 2, _ => rw [hls]; omega)
 rw [hLl, hjs] at hco
 have hrg : ∀ v i, v < N.ends.length → i < (gl N.ends v).length → -1000 ≤ (gp (gl N.ends v) i).1 ∧ (gp (gl N.ends v) i).1 ≤ 1000 := fun v i hv hi => by
  obtain ⟨q1, q2, q3, q4, q5⟩ := w4 hs hv hi;rw [q5]; omega
 refine ao Tryz.func52 rfl (by rw [Tryz.ntmps52]; simp) fun w0 => ?_;rw [Tryz.ntmps52];have dX := Pb;simp only [b4, bc, Arg.av, bw, b8, ints, ends];refine ab (dR fun K hK => ?_);(repeat refine eV ?_);refine aa (hK _ (wK [1, 2] ?_));clear hK K;refine ab ?_;refine ab (dR fun K hK => ?_);(repeat refine eV ?_);refine cL rfl ⟨rfl, _, rfl⟩ (by omega) (by first | exact At) (i5 ⟨false, f.t1, f.o2, f.t2, false, f.t3, false, f.t4⟩ N (by omega)) ?_;rintro _ rfl;(repeat refine eV ?_);have dK := @hg;refine aa (hK _ (ay [1, 2, 12] ?_));clear hK K;refine dI ?_ ?_<;>intro hb
 ·cases hb
 ·refine af ?_;show DW _ _ _ _ _;refine ab (dR fun K hK => ?_);(repeat refine eV ?_);refine aa (hK _ (wK [1, 2, 4] ?_));clear hK K;refine ab (fg r6 (fun j r => match j with | 8 => r = [.own false [.sl true 3 1 ((N.inputs ++ N.inputs).map iC)]] | _ => True) fun K hK => ?_)
  repeat (apply oq; (focus exact rfl); (focus simp (disch := first | omega | (intros; contradiction)) only [ac, bj, ia, pZ, simprocAttr, ap, netO, b7, bl, az, be, ce, bh, ew, if_pos, dm, dl, bz , r6, ma, h2n, Bx, Int.toNat_natCast]); (focus (simp (disch := first | omega | (intros; contradiction)) only [ac, bj, pZ, simprocAttr, ap, netO, b7, bl, az, be, ce, bh, ew, if_pos, dm, dl, bz , r6, ma, h2n, Bx, Int.toNat_natCast]; exact rfl)))
  refine lu rfl ⟨rfl, _, rfl⟩ (by omega) (by first | exact ma) (by simp only [ac, bj, ia, pZ, simprocAttr, ap, netO, b7, bl, az, be, ce, bh, ew, if_pos, dm, dl, bz , r6, ma, h2n, Bx, Int.toNat_natCast]) (by simp only [ac, bj, ia, pZ, simprocAttr, ap, netO, b7, bl, az, be, ce, bh, ew, if_pos, dm, dl, bz , r6, ma, h2n, Bx, Int.toNat_natCast]) (by simp only [ac, bj, ia, pZ, simprocAttr, ap, netO, b7, bl, az, be, ce, bh, ew, if_pos, dm, dl, bz , r6, ma, h2n, Bx, Int.toNat_natCast]) (by simp (disch := first | omega | (intros; contradiction)) only [ac, bj, pZ, simprocAttr, ap, netO, b7, bl, az, be, ce, bh, ew, if_pos, dm, dl, bz , r6, ma, h2n, Bx, Int.toNat_natCast] <;> exact rfl) (hco) rfl ⟨_, rfl⟩ ?_;rintro _ rfl
  repeat (apply oq; (focus exact rfl); (focus simp (disch := first | omega | (intros; contradiction)) only [ac, bj, ia, pZ, simprocAttr, ap, netO, b7, bl, az, be, ce, bh, ew, if_pos, dm, dl, bz , r6, ma, h2n, Bx, Int.toNat_natCast]); (focus (simp (disch := first | omega | (intros; contradiction)) only [ac, bj, pZ, simprocAttr, ap, netO, b7, bl, az, be, ce, bh, ew, if_pos, dm, dl, bz , r6, ma, h2n, Bx, Int.toNat_natCast]; exact rfl)))
  have dK := And.intro @h2n (And.intro @Bx @Int.toNat_natCast);refine bg (hK _ (ay [1, 2, 4, 5] ?_));clear hK K;refine Rt 5 0 111 2 (by decide) rfl rfl [1, 2, 4, 5] (by simp only [ac, pZ, simprocAttr, List.modify_zero_cons, List.modify_succ_cons, zes, hd0]; exact rfl) ?_;refine cq 5 1 3 1 (by decide) rfl rfl [1, 2, 4, 5] (by simp only [ac, pZ, simprocAttr, List.modify_zero_cons, List.modify_succ_cons]; exact rfl) ?_;refine ab ?_;refine ab (dR fun K hK => ?_);(repeat refine eV ?_);refine aa (hK _ (wK [2, 4, 5, 28, 29, 30] ?_));clear hK K;refine ae ?_;refine ax (X := Nat) (fun v => v ≤ N.ends.length) (fun v => [(30, .c (.p (.int .i64 v)))]) (fun v => [((5, 0), ⟨some 27, [.sl true 103 1 ((e8 N.ends v 0).map (esC 111)), .sl true 3 1 (([] : List Int).map iC), .sl true 3 1 ((N.inputs ++ N.inputs).map iC)]⟩)]) (fun v => N.ends.length - v) 0 (Nat.zero_le _) (by first | rfl | (simp only [ac, pZ, simprocAttr, Int.natCast_zero] <;> rfl)) ?_;rintro v hv;intro E hE;simp only [ac, pZ, simprocAttr] at hE;subst hE;refine ab (dR fun K hK => ?_);(repeat refine eV ?_);refine aa (hK _ (wK [2, 4, 5, 28, 29, 30, 31] ?_));clear hK K;refine ab (dI (fun hb => ?_) (fun hb => ?_))
  ·have hvn : v < N.ends.length := by simpa using hb
   have hdv := hdg v;refine af ?_;show DW _ _ _ _ _;refine ab (ae ?_);refine ab (dR fun K hK => ?_);(repeat refine eV ?_);refine aa (hK _ (wK [2, 4, 5, 6, 7, 28, 29, 30] ?_));clear hK K;refine ab (dR fun K hK => ?_);(repeat refine eV ?_);refine aa (hK _ (wK [2, 4, 5, 6, 28, 29, 30, 35, 36, 37] ?_));clear hK K;refine ae ?_;refine ax (X := Nat) (fun i => i ≤ (gl N.ends v).length) (fun i => [(37, .c (.p (.int .i64 i)))]) (fun i => [((5, 0), ⟨some 27, [.sl true 103 1 ((e8 N.ends v i).map (esC 111)), .sl true 3 1 (([] : List Int).map iC), .sl true 3 1 ((N.inputs ++ N.inputs).map iC)]⟩)]) (fun i => (gl N.ends v).length - i) 0 (Nat.zero_le _) (by first | rfl | (simp only [ac, pZ, simprocAttr, Int.natCast_zero] <;> rfl)) ?_;rintro i hi;intro E hE;simp only [ac, pZ, simprocAttr] at hE;subst hE;refine ab (dR fun K hK => ?_);(repeat refine eV ?_);refine aa (hK _ (wK [2, 4, 5, 6, 28, 29, 30, 35, 36, 37, 38] ?_));clear hK K;refine ab (dI (fun hb => ?_) (fun hb => ?_))
   ·have hil : i < (gl N.ends v).length := by simpa using hb
    have hr := hrg v i hvn hil;have hl1 := ft N.ends v i;have hlo := yu hvn hi;have hhi := yv hvn hi;refine af ?_;show DW _ _ _ _ _;refine ab (ae ?_);refine ab (dR fun K hK => ?_);(repeat refine eV ?_);refine aa (hK _ (wK [2, 4, 5, 6, 9, 28, 29, 30, 35, 36, 37] ?_));clear hK K;have dX := And.intro dX (And.intro @dcSt11.eq_def (And.intro @ec (And.intro @mz (And.intro @hl1 (And.intro @hlo (And.intro @List.length_append.{0} @List.length_modify.{0}))))));refine ab (fg dcSt11 (fun j r => match j with | _ => True) fun K hK => ?_);(repeat refine dV ?_);have dK := And.intro @jc @ki;refine bg (hK _ (ay [2, 4, 5, 6, 9, 28, 29, 30, 35, 36, 37] ?_));clear hK K;have hnx := Fb hvn hil rfl
    generalize hx : v + N.ends.length = x at *
    have hx' : ((v : Int) + (N.ends.length : Int)) = (x : Int) := by omega
    have hls : ∀ A, x < ((e8 N.ends v i).set v A).length := fun A => by rw [List.length_set, hl1]; omega
    have hrw : ∀ A t2, bu (((e8 N.ends v i).set v A).map (esC t2)) x 0 = some (.sl true t2 2 ((gl (e8 N.ends v i) x).map eC)) := fun A t2 => by rw [ec (hls A), om (by omega)]
    have hrm : ∀ A t2 y, bu ((((e8 N.ends v i).set v A).map (esC t2)).modify x fun row => row.modify 0 fun _ => y) x 0 = some y := fun A t2 y => mz (hls A);have dX := And.intro dX (And.intro @dcSt12.eq_def (And.intro @hx' (And.intro @hrw (And.intro @hrm (And.intro @hl1 (And.intro @hhi (And.intro @List.length_append.{0} (And.intro @List.length_modify.{0} @List.length_set.{0}))))))));refine fg dcSt12 (fun j r => match j with | _ => True) fun K hK => ?_;(repeat refine dV ?_);have dK := And.intro @jc (And.intro @ki (And.intro @om @hnx));refine bg (hK _ (ay [2, 4, 5, 6, 28, 29, 30, 35, 36, 37] ?_));clear hK K;refine dR fun K hK => ?_;(repeat refine eV ?_);have dK := @bi;refine aa (hK _ ?_);clear hK K;show ∃ x, _ ∧ _ ∧ Weak _ _;refine ⟨i + 1, ?_, ?_, an [2, 4, 5, 6, 28, 29, 30, 35, 36, 37]⟩
    ·omega
    ·omega
   ·have hil : i = (gl N.ends v).length := by
     have : ¬ i < (gl N.ends v).length := by simpa using hb
     omega
    have hfull : e8 N.ends v i = e8 N.ends (v + 1) 0 := by rw [hil]; exact Bn
    rw [hfull];refine am ?_;refine a7 [2, 4, 5, 28, 29, 30] (by simp only [ac, pZ, simprocAttr]; exact rfl) ?_;refine dR fun K hK => ?_;(repeat refine eV ?_);have dK := @bi;refine aa (hK _ ?_);clear hK K;show ∃ x, _ ∧ _ ∧ Weak _ _;refine ⟨v + 1, ?_, ?_, an [2, 4, 5, 28, 29, 30]⟩
    ·omega
    ·omega
  ·have hvn : v = N.ends.length := by
    have : ¬ v < N.ends.length := by simpa using hb
    omega
   rw [hvn, Pc];refine am ?_;refine a7 [2, 5] (by simp only [ac, pZ, simprocAttr]; exact rfl) ?_;refine ab (dR fun K hK => ?_);(repeat refine eV ?_);refine gmF rfl ⟨rfl, _, rfl⟩ (by omega) (by first | exact Ua) (Kk (dc N) (Nat.zero_le _)) ?_;rintro _ rfl;refine K7 ?_;(repeat refine eV ?_);have dK := @netO.eq_1;refine aa (hK _ (ay [2, 3] ?_));clear hK K;exact ak (aq Tryz.results52 (.two (.cell 2 _ _ _ _ rfl rfl ap rfl rfl (au _)) (.plain _ _ rfl)) (by decide) rfl)
theorem vq (f : NF) (N : Net) (hi : N.ids.length ≤ 2097152) (hg : bm N = false) : DCalls Tryz.prog 52 [.agg (bw f N)] (fun r => r = [.own true (netO Eg), .c (.p (.bool false))]) := by
 refine ao Tryz.func52 rfl (by rw [Tryz.ntmps52]; simp) fun w0 => ?_;rw [Tryz.ntmps52];have dX := Pb;simp only [b4, bc, Arg.av, bw, b8, ints, ends];refine ab (dR fun K hK => ?_);(repeat refine eV ?_);refine aa (hK _ (wK [1, 2] ?_));clear hK K;refine ab ?_;refine ab (dR fun K hK => ?_);(repeat refine eV ?_);refine cL rfl ⟨rfl, _, rfl⟩ (by omega) (by first | exact At) (i5 ⟨false, f.t1, f.o2, f.t2, false, f.t3, false, f.t4⟩ N hi) ?_;rintro _ rfl;(repeat refine eV ?_);have dK := @hg;refine aa (hK _ (ay [1, 2, 12] ?_));clear hK K;refine dI ?_ ?_<;>intro hb
 ·refine ab (dR fun K hK => ?_);(repeat refine eV ?_);refine aa (hK _ (wK [2, 3] ?_));clear hK K;refine cq 2 0 103 1 (by decide) rfl rfl [2, 3] (by simp only [ac, pZ, simprocAttr, List.modify_zero_cons, List.modify_succ_cons]; exact rfl) ?_;refine cq 2 1 3 1 (by decide) rfl rfl [2, 3] (by simp only [ac, pZ, simprocAttr, List.modify_zero_cons, List.modify_succ_cons]; exact rfl) ?_;refine cq 2 2 3 1 (by decide) rfl rfl [2, 3] (by simp only [ac, pZ, simprocAttr, List.modify_zero_cons, List.modify_succ_cons]; exact rfl) ?_;exact ak (aq Tryz.results52 (.two (.cell 2 _ _ _ _ rfl rfl ap rfl rfl (au Eg)) (.plain _ _ rfl)) (by decide) rfl)
 ·cases hb
end Go.Proofs.YtolpiolnhgpjjaaGreat

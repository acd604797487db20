/- Parts of the proof. -/
import Derived.Test.YtolpiolnhgpjjaaGreatCJn21
import Derived.Test.YtolpiolnhgpjjaaGreatCJn26
import Derived.Test.YtolpiolnhgpjjaaGreatCNw1
import Derived.Test.YtolpiolnhgpjjaaGreatCJn6
set_option linter.unusedSimpArgs false
set_option linter.unusedVariables false
namespace Go.Proofs.YtolpiolnhgpjjaaGreat
section
set_option maxHeartbeats 0
set_option maxRecDepth 8000
open Go Go.RowKit
theorem oh (f : NF) (N : Net) (hs : fh N) : DCalls Tryz.prog 187 [.agg (bw f N)] (fun r => r = [.own true (netO N)]) := Bm fun w vs h1 h2 => by
 obtain ⟨u, rfl, g1⟩ := Fr h1 h2;exact Kq u N w (Vh g1) hs
def pb (N : Net) (v m : Nat) : List Int := ((gl N.ends v).take m).map Prod.fst
theorem Kl {N : Net} {v m : Nat} (h : m < (gl N.ends v).length) : pb N v (m + 1) = pb N v m ++ [(gp (gl N.ends v) m).1] := by
 unfold pb;rw [List.take_add_one, List.getElem?_eq_getElem h, gu h, List.map_append];rfl
theorem Ni {N : Net} {v m : Nat} (h : m ≤ (gl N.ends v).length) : (pb N v m).length = m := by simp [pb]; omega
def zBDen1 := PLift.up (And.intro ap (And.intro @netO.eq_1 (And.intro @b7 (And.intro bl (And.intro az (And.intro be (And.intro ce (And.intro bh (And.intro @if_pos.{1} (And.intro @dm (And.intro @dl (And.intro @bz @trivial))))))))))))
theorem Hj : type_of% zBDen1.down := zBDen1.down
theorem Nm (f : NF) (N : Net) (v : Nat) (hv : v < N.ends.length) (hd : (gl N.ends v).length ≤ 262144) : DCalls Tryz.prog 59 [.agg (bw f N), .c (.p (.int .i64 v))] (fun r => r = [.own false [.sl true 3 1 ((pb N v (gl N.ends v).length).map iC)]]) := by
 refine ao Tryz.func59 rfl (by rw [Tryz.ntmps59]; simp) fun w0 => ?_;rw [Tryz.ntmps59];have dX := Hj;simp only [b4, bc, Arg.av, bw, b8, ints, ends];refine ab (dR fun K hK => ?_);(repeat refine eV ?_);refine aa (hK _ (wK [1, 2] ?_));clear hK K;refine ab (dR fun K hK => ?_);(repeat refine eV ?_);refine aa (hK _ (wK [1, 2, 5] ?_));clear hK K;refine ab ?_;refine ab (dR fun K hK => ?_);(repeat refine eV ?_);refine aa (hK _ (wK [5, 12, 13, 14] ?_));clear hK K;refine ae ?_;refine ii 5 3 1 (by decide) (by simp only [ac, pZ, simprocAttr]) [5, 12, 13, 14] (by simp only [ac, pZ, simprocAttr]; exact rfl) ?_;refine ax (X := Nat) (fun k => k ≤ (gl N.ends v).length) (fun k => [(14, .c (.p (.int .i64 k)))]) (fun k => [((5, 0), ⟨none, [.sl true 3 1 ((pb N v k).map iC)]⟩)]) (fun k => (gl N.ends v).length - k) 0 (Nat.zero_le _) (by first | rfl | (simp only [ac, pZ, simprocAttr, Int.natCast_zero] <;> rfl)) ?_;rintro k hk;intro E hE;simp only [ac, pZ, simprocAttr] at hE;subst hE;have hnl := Ni hk;refine ab (dR fun K hK => ?_);(repeat refine eV ?_);refine aa (hK _ (wK [5, 12, 13, 14, 15] ?_));clear hK K;refine ab (dI (fun hb => ?_) (fun hb => ?_))
 ·have hk1 : k < (gl N.ends v).length := by simpa using hb
  have hns := Kl hk1;refine af ?_;show DW _ _ _ _ _;refine ab (ae ?_);refine ab (dR fun K hK => ?_);(repeat refine eV ?_);refine aa (hK _ (wK [5, 7, 12, 13, 14] ?_));clear hK K;refine dR fun K hK => ?_;(repeat refine eV ?_);have dK := @gr;refine aa (hK _ (ay [5, 12, 13, 14] ?_));clear hK K;refine dR fun K hK => ?_;(repeat refine eV ?_);have dK := And.intro @bi @hns;refine aa (hK _ ?_);clear hK K;show ∃ x, _ ∧ _ ∧ Weak _ _;refine ⟨k + 1, ?_, ?_, an [5, 12, 13, 14]⟩
  ·omega
  ·omega
 ·have hk2 : k = (gl N.ends v).length := by
   have : ¬ k < (gl N.ends v).length := by simpa using hb
   omega
  refine am ?_;refine wK [5] ?_;refine ab (dR fun K hK => ?_);(repeat refine eV ?_);refine aa (hK _ (wK [4] ?_));clear hK K;exact ak (aq Tryz.results59 (.one (.own _ _ _ _ rfl rfl (own1 (bn _ _)))) (by decide) (by rw [hk2]))
def neJoinSt6 : Nat → Stat
 | 0 => ⟨[7], [(7, 1)], [], [29], [], []⟩
 | 1 => ⟨[29], [(7, 1)], [], [30], [], []⟩
 | 2 => ⟨[1], [], [], [31], [], []⟩
 | 3 => ⟨[7], [(7, 1)], [], [32], [], []⟩
 | 4 => ⟨[32], [(7, 1)], [], [33], [], []⟩
 | 5 => ⟨[1], [], [], [34], [], []⟩
 | 6 => ⟨[33, 34], [(7, 1)], [], [35], [], []⟩
 | 7 => ⟨[35], [(7, 2)], [], [36], [], []⟩
 | 8 => ⟨[2], [], [], [37], [], []⟩
 | 9 => ⟨[9], [], [], [38], [], []⟩
 | 10 => ⟨[37, 38], [], [], [39], [], []⟩
 | 11 => ⟨[39], [], [], [40], [], []⟩
 | 12 => ⟨[36, 40], [(7, 2), (40, 1)], [7, 40], [41], [(7, 2)], []⟩
 | 13 => ⟨[30, 31], [(7, 1)], [], [42], [], []⟩
 | 14 => ⟨[42, 41], [(7, 2)], [41], [], [(7, 2), (41, 1)], []⟩
 | _ => ⟨[], [], [], [], [], []⟩
def neJoinSt7 : Nat → Stat
 | 0 => ⟨[7], [(7, 1)], [], [43], [], []⟩
 | 1 => ⟨[43], [(7, 1)], [], [44], [], []⟩
 | 2 => ⟨[2], [], [], [45], [], []⟩
 | 3 => ⟨[7], [(7, 1)], [], [46], [], []⟩
 | 4 => ⟨[46], [(7, 1)], [], [47], [], []⟩
 | 5 => ⟨[2], [], [], [48], [], []⟩
 | 6 => ⟨[47, 48], [(7, 1)], [], [49], [], []⟩
 | 7 => ⟨[49], [(7, 2)], [], [50], [], []⟩
 | 8 => ⟨[1], [], [], [51], [], []⟩
 | 9 => ⟨[8], [], [], [52], [], []⟩
 | 10 => ⟨[51, 52], [], [], [53], [], []⟩
 | 11 => ⟨[53], [], [], [54], [], []⟩
 | 12 => ⟨[50, 54], [(7, 2), (54, 1)], [7, 54], [55], [(7, 2)], []⟩
 | 13 => ⟨[44, 45], [(7, 1)], [], [56], [], []⟩
 | 14 => ⟨[56, 55], [(7, 2)], [55], [], [(7, 2), (55, 1)], []⟩
 | _ => ⟨[], [], [], [], [], []⟩
theorem Nn (f : NF) (N : Net) (v x : Nat) (hs : fh N) (hv : v < N.ends.length) (hx : x < N.ends.length) : DCalls Tryz.prog 190 [.agg (bw f N), .c (.p (.int .i64 v)), .c (.p (.int .i64 x))] (fun r => r = [.own true (netO (lk N v x))]) := by
 obtain ⟨hs1, hs2, -, -⟩ := id hs;have hdv := hs2 v hv;have hdx := hs2 x hx;obtain ⟨j, hj⟩ : ∃ j, j = (gl N.ends x).length + (if v = x then 1 else 0) := ⟨_, rfl⟩;refine ao Tryz.func190 rfl (by rw [Tryz.ntmps190]; simp) fun w0 => ?_;rw [Tryz.ntmps190];have dX := Hj;simp only [b4, bc, Arg.av, bw, b8, ints, ends];refine ab (dR fun K hK => ?_);(repeat refine eV ?_);refine aa (hK _ (wK [1, 2, 3, 6] ?_));clear hK K;refine ab (dR fun K hK => ?_);(repeat refine eV ?_);refine cL rfl ⟨rfl, _, rfl⟩ (by omega) (by first | exact tn) (oh ⟨false, f.t1, f.o2, f.t2, false, f.t3, false, f.t4⟩ N hs) ?_;rintro _ rfl;(repeat refine eV ?_);refine aa (hK _ (wK [1, 2, 6, 7] ?_));clear hK K;have dX := And.intro dX (@ec);refine ab (dR fun K hK => ?_);(repeat refine eV ?_);refine aa (hK _ (wK [1, 2, 6, 7, 8] ?_));clear hK K;have dX := And.intro dX (@ec);refine ab (dR fun K hK => ?_);(repeat refine eV ?_);refine aa (hK _ (wK [1, 2, 6, 7, 8, 9] ?_));clear hK K;refine wl (X := Unit) (fun z => True) (fun z => mkE 58 [(1, .c (.p (.int .i64 v))), (2, .c (.p (.int .i64 x))), (6, .box), (7, .box), (8, .c (.p (.int .i64 (gl N.ends v).length))), (9, .c (.p (.int .i64 j)))] [((6, 0), ⟨some 27, [.p (.slice none 0 0), .p (.slice none 0 0), .p (.slice none 0 0)]⟩), ((7, 0), ⟨some 27, netO N⟩)]) ?_ ?_
 ·refine ab (dR fun K hK => ?_);(repeat refine eV ?_);refine aa (hK _ (wK [1, 2, 6, 7, 8, 9, 26] ?_));clear hK K;refine dI ?_ ?_<;>intro hb
  ·have hj1 : ((gl N.ends x).length : Int) + 1 = j := by
    have : v = x := by simp at hb; omega
    rw [hj, if_pos this]; rfl
   refine dR fun K hK => ?_;(repeat refine eV ?_);refine aa (hK _ ?_);clear hK K;show ∃ x, _ ∧ Weak _ _;refine ⟨⟨⟩, ?_, (cm _ [1, 2, 6, 7, 8, 9]).trans (Weak.of_eq (by simp only [ac, pZ, simprocAttr , hj1] <;> exact rfl))⟩;trivial
  ·have hj1 : ((gl N.ends x).length : Int) = j := by
    have : ¬ v = x := by simp at hb; omega
    rw [hj, if_neg this]; rfl
   rw [hj1];refine af ?_;show ∃ x, _ ∧ Weak _ _;refine ⟨⟨⟩, ?_, (cm _ [1, 2, 6, 7, 8, 9]).trans (Weak.of_eq (by simp only [ac, pZ, simprocAttr] <;> exact rfl))⟩;trivial
 ·rintro ⟨⟩ -;obtain ⟨E1, hE1⟩ : ∃ E1, E1 = N.ends.set v (gl N.ends v ++ [((x : Int), (j : Int))]) := ⟨_, rfl⟩;have hl1 : E1.length = N.ends.length := by rw [hE1, List.length_set]
  have hd1 : (gl E1 x).length ≤ 262145 := by
   rw [hE1, jv hv];split
   ·rename_i h; subst h; simp; omega
   ·omega
  have hjn : lk N v x = ⟨E1.set x (gl E1 x ++ [((v : Int), ((gl N.ends v).length : Int))]), N.ids, N.inputs⟩ := by rw [hE1, hj]; rfl
  have dX := And.intro dX (And.intro @neJoinSt6.eq_def (And.intro @ec (And.intro @mz (And.intro @List.length_append.{0} @List.length_modify.{0}))));refine ab (fg neJoinSt6 (fun j r => match j with | _ => True) fun K hK => ?_);(repeat refine dV ?_);have dK := And.intro @jc (And.intro @ki (Eq.symm hE1));refine bg (hK _ (ay [1, 2, 6, 7, 8] ?_));clear hK K;have dX := And.intro dX (And.intro @neJoinSt7.eq_def (And.intro @ec (And.intro @mz (And.intro @List.length_append.{0} (And.intro @List.length_modify.{0} @hl1)))));refine ab (fg neJoinSt7 (fun j r => match j with | _ => True) fun K hK => ?_);(repeat refine dV ?_);have dK := And.intro @jc @ki;refine bg (hK _ (ay [6, 7] ?_));clear hK K;refine ab (dR fun K hK => ?_);(repeat refine eV ?_);refine aa (hK _ (wK [6] ?_));clear hK K;exact ak (aq Tryz.results190 (.one (.cell 6 _ _ _ _ rfl rfl ap rfl rfl (au ⟨_, _, _⟩))) (by decide) (by rw [hjn]; rfl))
def neStubSt2 : Nat → Stat
 | 0 => ⟨[5], [(5, 1)], [], [8], [], []⟩
 | 1 => ⟨[8], [(5, 1)], [], [9], [], []⟩
 | 2 => ⟨[1], [], [], [10], [], []⟩
 | 3 => ⟨[5], [(5, 1)], [], [11], [], []⟩
 | 4 => ⟨[11], [(5, 1)], [], [12], [], []⟩
 | 5 => ⟨[1], [], [], [13], [], []⟩
 | 6 => ⟨[12, 13], [(5, 1)], [], [14], [], []⟩
 | 7 => ⟨[14], [(5, 2)], [], [15], [], []⟩
 | 8 => ⟨[1], [], [], [16], [], []⟩
 | 9 => ⟨[5], [(5, 1)], [], [17], [], []⟩
 | 10 => ⟨[17], [(5, 1)], [], [18], [], []⟩
 | 11 => ⟨[1], [], [], [19], [], []⟩
 | 12 => ⟨[18, 19], [(5, 1)], [], [20], [], []⟩
 | 13 => ⟨[20], [(5, 2)], [], [21], [], []⟩
 | 14 => ⟨[21], [(5, 2)], [], [22], [], []⟩
 | 15 => ⟨[16, 22], [], [], [23], [], []⟩
 | 16 => ⟨[23], [], [], [24], [], []⟩
 | 17 => ⟨[15, 24], [(5, 2), (24, 1)], [5, 24], [25], [(5, 2)], []⟩
 | 18 => ⟨[9, 10], [(5, 1)], [], [26], [], []⟩
 | 19 => ⟨[26, 25], [(5, 2)], [25], [], [(5, 2), (25, 1)], []⟩
 | _ => ⟨[], [], [], [], [], []⟩
theorem Nk (f : NF) (N : Net) (v : Nat) (hs : fh N) (hv : v < N.ends.length) : DCalls Tryz.prog 189 [.agg (bw f N), .c (.p (.int .i64 v))] (fun r => r = [.own true (netO (w5 N v))]) := by
 obtain ⟨hs1, hs2, -, -⟩ := id hs;have hdv := hs2 v hv;refine ao Tryz.func189 rfl (by rw [Tryz.ntmps189]; simp) fun w0 => ?_;rw [Tryz.ntmps189];have dX := Hj;simp only [b4, bc, Arg.av, bw, b8, ints, ends];refine ab (dR fun K hK => ?_);(repeat refine eV ?_);refine aa (hK _ (wK [1, 2, 4] ?_));clear hK K;refine ab (dR fun K hK => ?_);(repeat refine eV ?_);refine cL rfl ⟨rfl, _, rfl⟩ (by omega) (by first | exact tn) (oh ⟨false, f.t1, f.o2, f.t2, false, f.t3, false, f.t4⟩ N hs) ?_;rintro _ rfl;(repeat refine eV ?_);refine aa (hK _ (wK [1, 4, 5] ?_));clear hK K;have dX := And.intro dX (And.intro @neStubSt2.eq_def (And.intro @ec (And.intro @mz (And.intro @List.length_append.{0} @List.length_modify.{0}))));refine ab (fg neStubSt2 (fun j r => match j with | _ => True) fun K hK => ?_);(repeat refine dV ?_);have dK := And.intro @jc @ki;refine bg (hK _ (ay [4, 5] ?_));clear hK K;refine ab (dR fun K hK => ?_);(repeat refine eV ?_);refine aa (hK _ (wK [4] ?_));clear hK K;exact ak (aq Tryz.results189 (.one (.cell 4 _ _ _ _ rfl rfl ap rfl rfl (au ⟨_, _, _⟩))) (by decide) rfl)
end
section
open Go Go.RowKit
theorem qv {es : List (Int × Int)} {k : Nat} (h : k < es.length) : bu (es.map eC) k 0 = some (.p (.int .i64 (gp es k).1)) := bb.2 ⟨_, by rw [List.getElem?_map, List.getElem?_eq_getElem h]; rfl, by rw [gu h]; rfl⟩
theorem qu {es : List (Int × Int)} {k : Nat} (h : k < es.length) : bu (es.map eC) k 1 = some (.p (.int .i64 (gp es k).2)) := bb.2 ⟨_, by rw [List.getElem?_map, List.getElem?_eq_getElem h]; rfl, by rw [gu h]; rfl⟩
theorem Qy (es : List (Int × Int)) (j : Nat) (x y : Int) : (((es.map eC).modify j fun row => row.modify 0 fun _ => C.p (.int .i64 x)).modify j fun row => row.modify 1 fun _ => C.p (.int .i64 y)) = (es.set j (x, y)).map eC := by
 apply List.ext_getElem?;intro i;simp only [List.getElem?_modify, List.getElem?_map, List.getElem?_set]
 by_cases h : j = i
 ·subst h
  by_cases hk : j < es.length
  ·simp [List.getElem?_eq_getElem hk, hk, eC]
  ·simp [List.getElem?_eq_none (Nat.le_of_not_lt hk), hk]
 ·simp [h]
theorem t6 {t2 : TypeId} {ess : List (List (Int × Int))} {a j : Nat} {x y : Int} : (((ess.map (esC t2)).modify a fun row => row.modify 0 ((C.p (.int .i64 x)).put [(j, 0)])).modify a fun row => row.modify 0 ((C.p (.int .i64 y)).put [(j, 1)])) = (my ess a j (x, y)).map (esC t2) := by
 unfold my;apply List.ext_getElem?;intro i;simp only [List.getElem?_modify, List.getElem?_map, List.getElem?_set]
 by_cases h : a = i
 ·subst h
  by_cases hk : a < ess.length
  ·simp only [List.getElem?_eq_getElem hk, hk, if_true, Option.map_some, esC, gj hk];rw [← Qy];rfl
  ·simp [List.getElem?_eq_none (Nat.le_of_not_lt hk), hk]
 ·simp [h]
def nePortsSt7 : Nat → Stat
 | 0 => ⟨[7], [(7, 1)], [], [33], [], []⟩
 | 1 => ⟨[33], [(7, 1)], [], [34], [], []⟩
 | 2 => ⟨[9], [(9, 1)], [], [35], [], []⟩
 | 3 => ⟨[35], [(9, 1)], [], [36], [], []⟩
 | 4 => ⟨[34, 36], [(7, 1)], [], [37], [], []⟩
 | 5 => ⟨[37], [(7, 2)], [], [38], [], []⟩
 | 6 => ⟨[9], [(9, 1)], [], [39], [], []⟩
 | 7 => ⟨[39], [(9, 1)], [], [40], [], []⟩
 | 8 => ⟨[1], [], [], [41], [], []⟩
 | 9 => ⟨[2], [], [], [42], [], []⟩
 | 10 => ⟨[8], [], [], [43], [], []⟩
 | 11 => ⟨[42, 43], [], [], [44], [], []⟩
 | 12 => ⟨[44], [], [], [45], [], []⟩
 | 13 => ⟨[41, 45], [], [], [46], [], []⟩
 | 14 => ⟨[38, 40], [(7, 2)], [], [47], [], []⟩
 | 15 => ⟨[47, 46], [(7, 3)], [], [], [(7, 3)], []⟩
 | _ => ⟨[], [], [], [], [], []⟩
def nePortsSt8 : Nat → Stat
 | 0 => ⟨[7], [(7, 1)], [], [48], [], []⟩
 | 1 => ⟨[48], [(7, 1)], [], [49], [], []⟩
 | 2 => ⟨[1], [], [], [50], [], []⟩
 | 3 => ⟨[49, 50], [(7, 1)], [], [51], [], []⟩
 | 4 => ⟨[51], [(7, 2)], [], [52], [], []⟩
 | 5 => ⟨[2], [], [], [53], [], []⟩
 | 6 => ⟨[8], [], [], [54], [], []⟩
 | 7 => ⟨[53, 54], [], [], [55], [], []⟩
 | 8 => ⟨[55], [], [], [56], [], []⟩
 | 9 => ⟨[9], [(9, 1)], [], [57], [], []⟩
 | 10 => ⟨[52, 56], [(7, 2)], [], [58], [], []⟩
 | 11 => ⟨[58, 57], [(7, 3)], [9], [], [(7, 3), (9, 1)], []⟩
 | _ => ⟨[], [], [], [], [], []⟩
def zBDpo1 := PLift.up (And.intro ap (And.intro @netO.eq_1 (And.intro @b7 (And.intro bl (And.intro az (And.intro be (And.intro ce (And.intro bh (And.intro @if_pos.{1} (And.intro @dm (And.intro @dl (And.intro @bz @trivial))))))))))))
theorem Ux : type_of% zBDpo1.down := zBDpo1.down
set_option maxRecDepth 8000 in
set_option maxHeartbeats 0 in
theorem Kp (f : NF) (o : Bool) (t : TypeId) (N : Net) (v : Nat) (π : List Int) (hs : fh N) (hv : v < N.ends.length) (hsym : Sym N.ends) (hperm : π.Perm (ef (dg N.ends v))) :
 DCalls Tryz.prog 213 [.agg (bw f N), .c (.p (.int .i64 v)), .c (ints o t π)] (fun r => r = [.own true (netO (Gm N v π))]) := by
 obtain ⟨hs1, hs2, -, -⟩ := id hs;have hdv := hs2 v hv;have hpl : π.length = dg N.ends v := by rw [hperm.length_eq]; simp [ef]
 have hdg : dg N.ends v = (gl N.ends v).length := rfl;refine ao Tryz.func213 rfl (by rw [Tryz.ntmps213]; simp) fun w0 => ?_;rw [Tryz.ntmps213];have dX := Ux;simp only [b4, bc, Arg.av, bw, b8, ints, ends];refine ab (dR fun K hK => ?_);(repeat refine eV ?_);refine aa (hK _ (wK [1, 2, 3, 6] ?_));clear hK K;refine ab (dR fun K hK => ?_);(repeat refine eV ?_);refine cL rfl ⟨rfl, _, rfl⟩ (by omega) (by first | exact tn) (oh ⟨false, f.t1, f.o2, f.t2, false, f.t3, false, f.t4⟩ N hs) ?_;rintro _ rfl;(repeat refine eV ?_);refine aa (hK _ (wK [1, 2, 3, 6, 7] ?_));clear hK K;refine ab ?_;refine ab (dR fun K hK => ?_);(repeat refine eV ?_);refine aa (hK _ (wK [1, 2, 6, 7, 16, 17, 18] ?_));clear hK K;refine ae ?_;refine ax (X := Nat) (fun k => k ≤ (gl N.ends v).length) (fun k => [(18, .c (.p (.int .i64 k)))]) (fun k => [((7, 0), ⟨some 27, [.sl true 103 1 ((db N.ends v π k).map (esC 111)), .sl true 3 1 (N.ids.map iC), .sl true 3 1 (N.inputs.map iC)]⟩)]) (fun k => (gl N.ends v).length - k) 0 (Nat.zero_le _) (by first | rfl | (simp only [ac, pZ, simprocAttr, Int.natCast_zero] <;> rfl)) ?_;rintro k hk;intro E hE;simp only [ac, pZ, simprocAttr] at hE;subst hE;obtain ⟨hKl, hKd, -, -⟩ := pq hsym hv hperm k hk;refine ab (dR fun K hK => ?_);(repeat refine eV ?_);refine aa (hK _ (wK [1, 2, 6, 7, 16, 17, 18, 19] ?_));clear hK K;refine ab (dI (fun hb => ?_) (fun hb => ?_))
 ·have hk1 : k < (gl N.ends v).length := by simpa using hb
  obtain ⟨b, j, hbj, hbl, hjl, -⟩ := hsym v k hv hk1;obtain ⟨q, hq, hql⟩ := ke hperm (i := k) (by omega);have hKv : (gl (db N.ends v π k) v).length = (gl N.ends v).length := hKd v;have hKb : (gl (db N.ends v π k) b).length = (gl N.ends b).length := hKd b;have hjl' : j < (gl N.ends b).length := hjl;have hbj : gp (gl N.ends v) k = ((b : Int), (j : Int)) := hbj;refine af ?_;show DW _ _ _ _ _;refine ab (ae ?_);have dX := And.intro dX (@hbj);refine ab (dR fun K hK => ?_);(repeat refine eV ?_);refine aa (hK _ (wK [1, 2, 6, 7, 8, 9, 16, 17, 18] ?_));clear hK K;refine ab ?_;refine ab (dR fun K hK => ?_);(repeat refine eV ?_);refine aa (hK _ (wK [1, 2, 6, 7, 8, 9, 16, 17, 18, 26] ?_));clear hK K;refine dI ?_ ?_<;>intro hb
  ·have hbv : b = v := by simp at hb; omega
   subst hbv;refine dR fun K hK => ?_;(repeat refine eV ?_);refine aa (hK _ (wK [1, 2, 6, 7, 8, 9, 16, 17, 18] ?_));clear hK K;have dX := And.intro dX (And.intro @nePortsSt8.eq_def (And.intro @ec (And.intro @qv (And.intro @qu (And.intro @hKv @hq)))));refine fg nePortsSt8 (fun j r => match j with | _ => True) fun K hK => ?_;(repeat refine dV ?_)
   have hst : my (db N.ends b π k) b q ((b : Int), gi π j) = db N.ends b π (k + 1) := by
    show _ = eq N.ends b π (db N.ends b π k) k;unfold eq pt;rw [hbj, hq];simp
   have dK := And.intro @t6 @hst;refine bg (hK _ (ay [1, 2, 6, 7, 16, 17, 18] ?_));clear hK K;refine dR fun K hK => ?_;(repeat refine eV ?_);have dK := @bi;refine aa (hK _ ?_);clear hK K;show ∃ x, _ ∧ _ ∧ Weak _ _;refine ⟨k + 1, ?_, ?_, an [1, 2, 6, 7, 16, 17, 18]⟩
   ·omega
   ·omega
  ·have hbv : (b : Int) ≠ (v : Int) := by simpa using hb
   have hst : my (my (db N.ends v π k) b j ((v : Int), gi π k)) v q ((b : Int), (j : Int)) = db N.ends v π (k + 1) := by
    show _ = eq N.ends v π (db N.ends v π k) k;unfold eq pt;rw [hbj, hq];simp [hbv]
   obtain ⟨E1, hE1⟩ : ∃ E1, E1 = my (db N.ends v π k) b j ((v : Int), gi π k) := ⟨_, rfl⟩;have hl1 : E1.length = N.ends.length := by rw [hE1, mw, hKl]
   have hd1 : (gl E1 v).length = (gl N.ends v).length := by
    have := qs (ess := db N.ends v π k) (a := b) (j := j) (p := ((v : Int), gi π k)) (by omega) v;rw [← hE1] at this;exact this.trans (hKd v)
   have dX := And.intro dX (And.intro @nePortsSt7.eq_def (And.intro @ec (And.intro @qv (And.intro @qu @hKb))));refine fg nePortsSt7 (fun j r => match j with | _ => True) fun K hK => ?_;(repeat refine dV ?_);have dK := And.intro @t6 (Eq.symm hE1);refine bg (hK _ (ay [1, 2, 6, 7, 8, 9, 16, 17, 18] ?_));clear hK K;have dX := And.intro dX (And.intro @nePortsSt8.eq_def (And.intro @ec (And.intro @qv (And.intro @qu (And.intro @hd1 @hq)))));refine fg nePortsSt8 (fun j r => match j with | _ => True) fun K hK => ?_;(repeat refine dV ?_);have dK := And.intro @t6 (And.intro @hE1 @hst);refine bg (hK _ (ay [1, 2, 6, 7, 16, 17, 18] ?_));clear hK K;refine dR fun K hK => ?_;(repeat refine eV ?_);have dK := @bi;refine aa (hK _ ?_);clear hK K;show ∃ x, _ ∧ _ ∧ Weak _ _;refine ⟨k + 1, ?_, ?_, an [1, 2, 6, 7, 16, 17, 18]⟩
   ·omega
   ·omega
 ·have hk2 : k = dg N.ends v := by
   have : ¬ k < (gl N.ends v).length := by simpa using hb
   rw [hdg]; omega
  have hall := Gn hsym hv hperm;rw [← hk2] at hall;refine am ?_;refine a7 [6, 7] (by simp only [ac, pZ, simprocAttr]; exact rfl) ?_;refine ab (dR fun K hK => ?_);(repeat refine eV ?_);refine aa (hK _ (wK [6] ?_));clear hK K;exact ak (aq Tryz.results213 (.one (.cell 6 _ _ _ _ rfl rfl ap rfl rfl (au ⟨_, _, _⟩))) (by decide) (by show [RV.own true (netO ⟨db N.ends v π k, N.ids, N.inputs⟩)] = _; rw [hall]; rfl))
def NFo : NF := ⟨true, 103, true, 111, true, 3, true, 3⟩
theorem Nl (N : Net) (v : Nat) (hv : v < N.ends.length) (hd : (gl N.ends v).length ≤ 262144) : DCalls Tryz.prog 59 [.agg (netO N), .c (.p (.int .i64 v))] (fun r => r = [.own false [.sl true 3 1 ((pb N v (gl N.ends v).length).map iC)]]) := Nm NFo N v hv hd
theorem rm (N : Net) (v x : Nat) (hs : fh N) (hv : v < N.ends.length) (hx : x < N.ends.length) : DCalls Tryz.prog 190 [.agg (netO N), .c (.p (.int .i64 v)), .c (.p (.int .i64 x))] (fun r => r = [.own true (netO (lk N v x))]) := Nn NFo N v x hs hv hx
theorem Nj (N : Net) (v : Nat) (hs : fh N) (hv : v < N.ends.length) : DCalls Tryz.prog 189 [.agg (netO N), .c (.p (.int .i64 v))] (fun r => r = [.own true (netO (w5 N v))]) := Nk NFo N v hs hv
theorem Ko (o : Bool) (t : TypeId) (N : Net) (v : Nat) (π : List Int) (hs : fh N) (hv : v < N.ends.length) (hsym : Sym N.ends) (hperm : π.Perm (ef (dg N.ends v))) :
 DCalls Tryz.prog 213 [.agg (netO N), .c (.p (.int .i64 v)), .c (.sl o t 1 (π.map iC))] (fun r => r = [.own true (netO (Gm N v π))]) := Kp NFo o t N v π hs hv hsym hperm
end
section
open Go Go.RowKit
def zj (A E : List (List (Int × Int))) (k : Nat) : List (List (Int × Int)) := A ++ (E.take k).map (f0 A.length)
theorem Jy (A E : List (List (Int × Int))) : zj A E 0 = A := by simp [zj]
theorem Jz {A E : List (List (Int × Int))} {k : Nat} (h : k < E.length) : zj A E (k + 1) = zj A E k ++ [f0 A.length (gl E k)] := by
 unfold zj;rw [List.take_add_one, List.getElem?_eq_getElem h, gj h, List.map_append, List.append_assoc];rfl
theorem Mi {A E : List (List (Int × Int))} {k : Nat} (h : k ≤ E.length) : (zj A E k).length = A.length + k := by simp [zj]; omega
theorem Gf {n i : Nat} {es : List (Int × Int)} (h : i < es.length) : f0 n (es.take (i + 1)) = f0 n (es.take i) ++ [((gp es i).1 + (n : Int), (gp es i).2)] := by
 unfold f0;rw [List.take_add_one, List.getElem?_eq_getElem h, gu h, List.map_append];rfl
theorem Mr (t2 : TypeId) (L : List (List (Int × Int))) (es : List (Int × Int)) : L.map (esC t2) ++ [[C.sl true t2 2 (es.map eC)]] = (L ++ [es]).map (esC t2) := by simp [esC]
theorem gd (xs ys : List Int) : xs.map iC ++ ys.map iC = (xs ++ ys).map iC := by simp
def zBDun1 := PLift.up (And.intro ap (And.intro @netO.eq_1 (And.intro @b7 (And.intro bh (And.intro ce (And.intro bl (And.intro az (And.intro @if_pos.{1} (And.intro be (And.intro @dm (And.intro @dl (And.intro @bz @trivial))))))))))))
theorem Us : type_of% zBDun1.down := zBDun1.down
set_option maxRecDepth 8000 in
set_option maxHeartbeats 0 in
theorem Kn (f f' : NF) (M N : Net) (hs : fh M) (hs' : fh N) (hsym : Sym N.ends) : DCalls Tryz.prog 188 [.agg (bw f M), .agg (bw f' N)] (fun r => r = [.own true (netO (lx M N))]) := by
 obtain ⟨m1, m2, m3, m4⟩ := id hs;obtain ⟨n1, n2, n3, n4⟩ := id hs';refine ao Tryz.func188 rfl (by rw [Tryz.ntmps188]; simp) fun w0 => ?_;rw [Tryz.ntmps188];have dX := Us;simp only [b4, bc, Arg.av, bw, b8, ints, ends];refine ab (dR fun K hK => ?_);(repeat refine eV ?_);refine aa (hK _ (wK [2, 3, 4] ?_));clear hK K;refine ab (dR fun K hK => ?_);(repeat refine eV ?_);refine cL rfl ⟨rfl, _, rfl⟩ (by omega) (by first | exact tn) (oh ⟨false, f.t1, f.o2, f.t2, false, f.t3, false, f.t4⟩ M hs) ?_;rintro _ rfl;(repeat refine eV ?_);refine aa (hK _ (wK [2, 3, 4, 5] ?_));clear hK K;refine ab (dR fun K hK => ?_);(repeat refine eV ?_);have dK := @gd;refine aa (hK _ (ay [2, 3, 4, 5] ?_));clear hK K;refine ab (dR fun K hK => ?_);(repeat refine eV ?_);have dK := @gd;refine aa (hK _ (ay [2, 3, 4, 5] ?_));clear hK K;refine ab ?_;refine ab (dR fun K hK => ?_);(repeat refine eV ?_);refine aa (hK _ (wK [2, 4, 5, 26, 27, 28] ?_));clear hK K;refine ae ?_;refine ax (X := Nat) (fun k => k ≤ N.ends.length) (fun k => [(28, .c (.p (.int .i64 k)))]) (fun k => [((5, 0), ⟨some 27, [.sl true 103 1 ((zj M.ends N.ends k).map (esC 111)), .sl true 3 1 ((M.ids ++ N.ids).map iC), .sl true 3 1 ((M.inputs ++ N.inputs).map iC)]⟩)]) (fun k => N.ends.length - k) 0 (Nat.zero_le _) (by first | rfl | (simp only [ac, pZ, simprocAttr, Int.natCast_zero, Jy] <;> rfl)) ?_;rintro k hk;intro E hE;simp only [ac, pZ, simprocAttr] at hE;subst hE;refine ab (dR fun K hK => ?_);(repeat refine eV ?_);refine aa (hK _ (wK [2, 4, 5, 26, 27, 28, 29] ?_));clear hK K;refine ab (dI (fun hb => ?_) (fun hb => ?_))
 ·have hk1 : k < N.ends.length := by simpa using hb
  have hdk := n2 k hk1;have hul := Mi (A := M.ends) hk;have hus := Jz (A := M.ends) hk1;refine af ?_;show DW _ _ _ _ _;refine ab (ae ?_);refine ab (dR fun K hK => ?_);(repeat refine eV ?_);refine aa (hK _ (wK [2, 4, 5, 7, 26, 27, 28] ?_));clear hK K;refine ab (dR fun K hK => ?_);(repeat refine eV ?_);refine aa (hK _ (wK [2, 4, 5, 7, 8, 26, 27, 28] ?_));clear hK K;refine ab ?_;refine ab (dR fun K hK => ?_);(repeat refine eV ?_);refine aa (hK _ (wK [2, 4, 5, 8, 26, 27, 28, 32, 33, 34] ?_));clear hK K;refine ae ?_;refine ii 8 111 2 (by decide) (by simp only [ac, pZ, simprocAttr]) [2, 4, 5, 8, 26, 27, 28, 32, 33, 34] (by simp only [ac, pZ, simprocAttr]; exact rfl) ?_;refine ax (X := Nat) (fun i => i ≤ (gl N.ends k).length) (fun i => [(34, .c (.p (.int .i64 i)))]) (fun i => [((8, 0), ⟨none, [.sl true 111 2 ((f0 M.ends.length ((gl N.ends k).take i)).map eC)]⟩)]) (fun i => (gl N.ends k).length - i) 0 (Nat.zero_le _) (by first | rfl | (simp only [ac, pZ, simprocAttr, Int.natCast_zero] <;> rfl)) ?_;rintro i hi;intro E hE;simp only [ac, pZ, simprocAttr] at hE;subst hE;have hsl : (f0 M.ends.length ((gl N.ends k).take i)).length = i := by simp [f0]; omega
  refine ab (dR fun K hK => ?_);(repeat refine eV ?_);refine aa (hK _ (wK [2, 4, 5, 8, 26, 27, 28, 32, 33, 34, 35] ?_));clear hK K;refine ab (dI (fun hb => ?_) (fun hb => ?_))
  ·have hi1 : i < (gl N.ends k).length := by simpa using hb
   obtain ⟨b', j', hbj, hbl, -, -⟩ := hsym k i hk1 hi1;have hbj : gp (gl N.ends k) i = ((b' : Int), (j' : Int)) := hbj;have hss := Gf (n := M.ends.length) hi1;rw [hbj] at hss;dsimp only at hss;refine af ?_;show DW _ _ _ _ _;refine ab (ae ?_);have dX := And.intro dX (@hbj);refine ab (dR fun K hK => ?_);(repeat refine eV ?_);refine aa (hK _ (wK [2, 4, 5, 8, 10, 26, 27, 28, 32, 33, 34] ?_));clear hK K;refine dR fun K hK => ?_;(repeat refine eV ?_);have dK := @jc;refine aa (hK _ (ay [2, 4, 5, 8, 26, 27, 28, 32, 33, 34] ?_));clear hK K;refine dR fun K hK => ?_;(repeat refine eV ?_);have dK := And.intro @bi @hss;refine aa (hK _ ?_);clear hK K;show ∃ x, _ ∧ _ ∧ Weak _ _;refine ⟨i + 1, ?_, ?_, an [2, 4, 5, 8, 26, 27, 28, 32, 33, 34]⟩
   ·omega
   ·omega
  ·have hi2 : i = (gl N.ends k).length := by
    have : ¬ i < (gl N.ends k).length := by simpa using hb
    omega
   have htk : (gl N.ends k).take i = gl N.ends k := by rw [hi2, List.take_length]
   refine am ?_;refine a7 [2, 4, 5, 8, 26, 27, 28] (by simp only [ac, pZ, simprocAttr, htk]; exact rfl) ?_;refine dR fun K hK => ?_;(repeat refine eV ?_);have dK := And.intro @l8 @Mr;refine aa (hK _ (ay [2, 4, 5, 26, 27, 28] ?_));clear hK K;refine dR fun K hK => ?_;(repeat refine eV ?_);have dK := And.intro @bi @hus;refine aa (hK _ ?_);clear hK K;show ∃ x, _ ∧ _ ∧ Weak _ _;refine ⟨k + 1, ?_, ?_, an [2, 4, 5, 26, 27, 28]⟩
   ·omega
   ·omega
 ·have hk2 : k = N.ends.length := by
   have : ¬ k < N.ends.length := by simpa using hb
   omega
  have hun : lx M N = ⟨zj M.ends N.ends k, M.ids ++ N.ids, M.inputs ++ N.inputs⟩ := by rw [hk2]; simp [lx, jo, zj]
  refine am ?_;refine a7 [4, 5] (by simp only [ac, pZ, simprocAttr]; exact rfl) ?_;refine ab (dR fun K hK => ?_);(repeat refine eV ?_);refine aa (hK _ (wK [4] ?_));clear hK K;exact ak (aq Tryz.results188 (.one (.cell 4 _ _ _ _ rfl rfl ap rfl rfl (au ⟨_, _, _⟩))) (by decide) (by rw [hun]; rfl))
theorem Km (M N : Net) (hs : fh M) (hs' : fh N) (hsym : Sym N.ends) : DCalls Tryz.prog 188 [.agg (netO M), .agg (netO N)] (fun r => r = [.own true (netO (lx M N))]) := Kn NFo NFo M N hs hs' hsym
end
end Go.Proofs.YtolpiolnhgpjjaaGreat

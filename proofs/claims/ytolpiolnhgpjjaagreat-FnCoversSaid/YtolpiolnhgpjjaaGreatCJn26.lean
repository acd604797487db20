/- Parts of the proof. -/
import Derived.Test.YtolpiolnhgpjjaaGreatCJn21
import Derived.Test.YtolpiolnhgpjjaaGreatCDcv
import Derived.Test.YtolpiolnhgpjjaaGreatCDt
import Derived.Test.YtolpiolnhgpjjaaGreatCNw3
set_option linter.unusedSimpArgs false
set_option linter.unusedVariables false
namespace Go.Proofs.YtolpiolnhgpjjaaGreat
section
open Go Go.RowKit
theorem ec {t2 : TypeId} {ess : List (List (Int × Int))} {k : Nat} (h : k < ess.length) : bu (ess.map (esC t2)) k 0 = some (.sl true t2 2 ((gl ess k).map eC)) := bb.2 ⟨_, by rw [List.getElem?_map, List.getElem?_eq_getElem h]; rfl, by rw [esC, gj h]; rfl⟩
theorem li (n : Nat) (hn : n ≤ 1000) : DCalls Tryz.prog 178 [.c (.p (.int .i64 n))] (fun r => r = [.own true (netO (cy n))]) := Bm fun w vs h1 h2 => by
 obtain ⟨u, rfl, g1⟩ := Fr h1 h2;rw [Hv g1];exact Eh n w (by omega)
theorem mz {t2 : TypeId} {ess : List (List (Int × Int))} {k : Nat} {y : C} (h : k < ess.length) : bu ((ess.map (esC t2)).modify k fun row => row.modify 0 fun _ => y) k 0 = some y := bb.2 ⟨[y], by simp [List.getElem?_modify, List.getElem?_eq_getElem h, esC], rfl⟩
theorem ki {t2 : TypeId} {ess : List (List (Int × Int))} {k : Nat} {es : List (Int × Int)} : ((((ess.map (esC t2)).modify k fun row => row.modify 0 fun _ => C.hole).modify k fun row => row.modify 0 fun _ => C.hole).modify k fun row => row.modify 0 fun _ => C.sl true t2 2 (es.map eC)) = (ess.set k es).map (esC t2) := by
 apply List.ext_getElem?;intro i;simp only [List.getElem?_modify, List.getElem?_map, List.getElem?_set]
 by_cases h : k = i
 ·subst h
  by_cases hk : k < ess.length
  ·simp [List.getElem?_eq_getElem hk, hk, esC]
  ·simp [List.getElem?_eq_none (Nat.le_of_not_lt hk), hk]
 ·simp [h]
theorem om {L : List (List (Int × Int))} {v x : Nat} {A : List (Int × Int)} (h : x ≠ v) : gl (L.set v A) x = gl L x := by
 unfold gl;rw [List.getD_eq_getElem?_getD, List.getD_eq_getElem?_getD, List.getElem?_set_ne (Ne.symm h)]
end
section
open Go Go.RowKit
def oz (E : List (List (Int × Int))) (v i j : Nat) : Nat := if j < v then (gl E j).length else if j = v then i else 0
def e8 (E : List (List (Int × Int))) (v i : Nat) : List (List (Int × Int)) := (List.range (2 * E.length)).map fun j =>
 if j < E.length then ((gl E j).take (oz E v i j)).map (fun e : Int × Int => (e.1 + (E.length : Int), e.2)) else (gl E (j - E.length)).take (oz E v i (j - E.length))
def zp (N : Net) (v : Nat) : List Int := (List.range (2 * N.ends.length)).map fun j =>
 if j < N.ends.length then (if j < v then gi N.inputs j else 0) else if j - N.ends.length < v then gi N.inputs (j - N.ends.length) else 0
def mu (N : Net) (v : Nat) : Net := ⟨e8 N.ends v 0, [], zp N v⟩
theorem Wy (N : Net) : cy (2 * N.ends.length) = mu N 0 := by
 unfold cy mu
 congr 1
 ·apply List.ext_getElem
  ·simp [e8]
  ·intro j h1 h2;simp only [e8, List.getElem_replicate, List.getElem_map, List.getElem_range];have hc : ∀ k, oz N.ends 0 0 k = 0 := fun k => by unfold oz; rw [if_neg (by omega)]; split <;> rfl
   split <;> simp [hc]
 ·apply List.ext_getElem
  ·simp [zp]
  ·intro j h1 h2;simp only [zp, List.getElem_replicate, List.getElem_map, List.getElem_range];split <;> simp
theorem ft (E : List (List (Int × Int))) (v i : Nat) : (e8 E v i).length = 2 * E.length := by simp [e8]
theorem r8 (N : Net) (v : Nat) : (zp N v).length = 2 * N.ends.length := by simp [zp]
theorem C4 {E : List (List (Int × Int))} {v i : Nat} (h : v < E.length) : gl (e8 E v i) v = ((gl E v).take i).map (fun e : Int × Int => (e.1 + (E.length : Int), e.2)) := by
 rw [gj (by rw [ft]; omega)];simp only [e8, List.getElem_map, List.getElem_range];rw [if_pos h];have : oz E v i v = i := by unfold oz; rw [if_neg (by omega), if_pos rfl]
 rw [this]
theorem C5 {E : List (List (Int × Int))} {v i : Nat} (h : v < E.length) : gl (e8 E v i) (v + E.length) = (gl E v).take i := by
 rw [gj (by rw [ft]; omega)];simp only [e8, List.getElem_map, List.getElem_range];rw [if_neg (by omega), Nat.add_sub_cancel];have : oz E v i v = i := by unfold oz; rw [if_neg (by omega), if_pos rfl]
 rw [this]
theorem Fb {E : List (List (Int × Int))} {v i x : Nat} (h : v < E.length) (hi : i < (gl E v).length) (hx : v + E.length = x) :
 (((e8 E v i).set v (gl (e8 E v i) v ++ [((gp (gl E v) i).1 + (E.length : Int), (gp (gl E v) i).2)])).set x (gl (e8 E v i) x ++ [((gp (gl E v) i).1, (gp (gl E v) i).2)])) = e8 E v (i + 1) := by
 subst hx;rw [C4 h, C5 h];have ht : (gl E v).take (i + 1) = (gl E v).take i ++ [gp (gl E v) i] := by rw [List.take_add_one, List.getElem?_eq_getElem hi, gu hi]; rfl
 apply List.ext_getElem
 ·simp [ft]
 ·intro j h1 h2;rw [ft] at h2;simp only [List.getElem_set]
  by_cases h3 : v + E.length = j
  ·rw [if_pos h3];have := C5 (i := i + 1) h;rw [h3, gj (by rw [ft]; omega), ht] at this;exact this.symm
  ·rw [if_neg h3]
   by_cases h4 : v = j
   ·subst h4;rw [if_pos rfl];have := C4 (i := i + 1) h;rw [gj (by rw [ft]; omega), ht, List.map_append] at this;exact this.symm
   ·rw [if_neg h4];simp only [e8, List.getElem_map, List.getElem_range];have hc : ∀ k, k ≠ v → oz E v i k = oz E v (i + 1) k := fun k hk => by unfold oz; rw [if_neg hk, if_neg hk]
    split
    ·rw [hc j (Ne.symm h4)]
    ·rw [hc _ (by omega)]
theorem Bn {E : List (List (Int × Int))} {v : Nat} : e8 E v (gl E v).length = e8 E (v + 1) 0 := by
 unfold e8
 have hc : ∀ k, oz E v (gl E v).length k = oz E (v + 1) 0 k := fun k => by
  unfold oz
  by_cases h : k < v
  ·rw [if_pos h, if_pos (by omega)]
  ·by_cases h2 : k = v
   ·subst h2; rw [if_neg h, if_pos rfl, if_pos (by omega)]
   ·rw [if_neg h, if_neg h2, if_neg (by omega)]; split <;> rfl
 congr 1
 funext j;rw [hc, hc]
theorem Lg {N : Net} {v x : Nat} (h : v < N.ends.length) (hx : v + N.ends.length = x) : (((mu N v).inputs.set v (gi N.inputs v)).set x (gi N.inputs v)) = (mu N (v + 1)).inputs := by
 subst hx;show ((zp N v).set v _).set _ _ = zp N (v + 1);apply List.ext_getElem
 ·simp [r8]
 ·intro j h1 h2;simp only [List.getElem_set];simp only [zp, List.getElem_map, List.getElem_range]
  by_cases h3 : v + N.ends.length = j
  ·subst h3;rw [if_pos rfl, if_neg (by omega), if_pos (by omega), Nat.add_sub_cancel]
  ·rw [if_neg h3]
   by_cases h4 : v = j
   ·subst h4; rw [if_pos rfl, if_pos h, if_pos (by omega)]
   ·rw [if_neg h4]
    by_cases h5 : j < N.ends.length
    ·rw [if_pos h5, if_pos h5]
     by_cases h6 : j < v
     ·rw [if_pos h6, if_pos (by omega)]
     ·rw [if_neg h6, if_neg (by omega)]
    ·rw [if_neg h5, if_neg h5]
     by_cases h6 : j - N.ends.length < v
     ·rw [if_pos h6, if_pos (by omega)]
     ·rw [if_neg h6, if_neg (by omega)]
theorem yu {E : List (List (Int × Int))} {v i : Nat} (h : v < E.length) (hi : i ≤ (gl E v).length) : (gl (e8 E v i) v).length = i := by rw [C4 h]; simp; omega
theorem yv {E : List (List (Int × Int))} {v i : Nat} (h : v < E.length) (hi : i ≤ (gl E v).length) : (gl (e8 E v i) (v + E.length)).length = i := by rw [C5 h]; simp; omega
def buDoubleSt9 : Nat → Stat
 | 0 => ⟨[4], [(4, 1)], [], [29], [], []⟩
 | 1 => ⟨[29], [(4, 1)], [], [30], [], []⟩
 | 2 => ⟨[5], [], [], [31], [], []⟩
 | 3 => ⟨[4], [(4, 1)], [], [32], [], []⟩
 | 4 => ⟨[32], [(4, 1)], [], [33], [], []⟩
 | 5 => ⟨[5], [], [], [34], [], []⟩
 | 6 => ⟨[33, 34], [(4, 1)], [], [35], [], []⟩
 | 7 => ⟨[35], [(4, 2)], [], [36], [], []⟩
 | 8 => ⟨[8], [(8, 1)], [], [37], [], []⟩
 | 9 => ⟨[37], [(8, 1)], [], [38], [], []⟩
 | 10 => ⟨[3], [], [], [39], [], []⟩
 | 11 => ⟨[38, 39], [], [], [40], [], []⟩
 | 12 => ⟨[8], [(8, 1)], [], [41], [], []⟩
 | 13 => ⟨[41], [(8, 1)], [], [42], [], []⟩
 | 14 => ⟨[40, 42], [], [], [43], [], []⟩
 | 15 => ⟨[43], [], [], [44], [], []⟩
 | 16 => ⟨[36, 44], [(4, 2), (44, 1)], [4, 44], [45], [(4, 2)], []⟩
 | 17 => ⟨[30, 31], [(4, 1)], [], [46], [], []⟩
 | 18 => ⟨[46, 45], [(4, 2)], [45], [], [(4, 2), (45, 1)], []⟩
 | _ => ⟨[], [], [], [], [], []⟩
def buDoubleSt10 : Nat → Stat
 | 0 => ⟨[4], [(4, 1)], [], [47], [], []⟩
 | 1 => ⟨[47], [(4, 1)], [], [48], [], []⟩
 | 2 => ⟨[5], [], [], [49], [], []⟩
 | 3 => ⟨[3], [], [], [50], [], []⟩
 | 4 => ⟨[49, 50], [], [], [51], [], []⟩
 | 5 => ⟨[4], [(4, 1)], [], [52], [], []⟩
 | 6 => ⟨[52], [(4, 1)], [], [53], [], []⟩
 | 7 => ⟨[5], [], [], [54], [], []⟩
 | 8 => ⟨[3], [], [], [55], [], []⟩
 | 9 => ⟨[54, 55], [], [], [56], [], []⟩
 | 10 => ⟨[53, 56], [(4, 1)], [], [57], [], []⟩
 | 11 => ⟨[57], [(4, 2)], [], [58], [], []⟩
 | 12 => ⟨[8], [(8, 1)], [], [59], [], []⟩
 | 13 => ⟨[59], [], [], [60], [], []⟩
 | 14 => ⟨[58, 60], [(4, 2), (60, 1)], [4, 60], [61], [(4, 2)], []⟩
 | 15 => ⟨[48, 51], [(4, 1)], [], [62], [], []⟩
 | 16 => ⟨[62, 61], [(4, 2)], [61], [], [(4, 2), (61, 1)], []⟩
 | _ => ⟨[], [], [], [], [], []⟩
def buDoubleSt12 : Nat → Stat
 | 0 => ⟨[4], [(4, 1)], [], [64], [], []⟩
 | 1 => ⟨[64], [(4, 1)], [], [65], [], []⟩
 | 2 => ⟨[5], [], [], [66], [], []⟩
 | 3 => ⟨[1], [(1, 1)], [], [67], [], []⟩
 | 4 => ⟨[67], [(1, 1)], [], [68], [], []⟩
 | 5 => ⟨[5], [], [], [69], [], []⟩
 | 6 => ⟨[68, 69], [(1, 1)], [], [70], [], []⟩
 | 7 => ⟨[70], [(1, 2)], [], [71], [], []⟩
 | 8 => ⟨[65, 66], [(4, 1)], [], [72], [], []⟩
 | 9 => ⟨[72, 71], [(4, 2)], [], [], [(4, 2)], []⟩
 | _ => ⟨[], [], [], [], [], []⟩
def buDoubleSt13 : Nat → Stat
 | 0 => ⟨[4], [(4, 1)], [], [73], [], []⟩
 | 1 => ⟨[73], [(4, 1)], [], [74], [], []⟩
 | 2 => ⟨[5], [], [], [75], [], []⟩
 | 3 => ⟨[3], [], [], [76], [], []⟩
 | 4 => ⟨[75, 76], [], [], [77], [], []⟩
 | 5 => ⟨[1], [(1, 1)], [], [78], [], []⟩
 | 6 => ⟨[78], [(1, 1)], [], [79], [], []⟩
 | 7 => ⟨[5], [], [], [80], [], []⟩
 | 8 => ⟨[79, 80], [(1, 1)], [], [81], [], []⟩
 | 9 => ⟨[81], [(1, 2)], [], [82], [], []⟩
 | 10 => ⟨[74, 77], [(4, 1)], [], [83], [], []⟩
 | 11 => ⟨[83, 82], [(4, 2)], [], [], [(4, 2)], []⟩
 | _ => ⟨[], [], [], [], [], []⟩
def zBDbl1 := PLift.up (And.intro ap (And.intro @netO.eq_1 (And.intro @b7 (And.intro bl (And.intro az (And.intro be (And.intro ce (And.intro bh (And.intro @if_pos.{1} (And.intro @dm (And.intro @dl (And.intro @bz @trivial))))))))))))
theorem U2 : type_of% zBDbl1.down := zBDbl1.down
set_option maxRecDepth 8000 in
set_option maxHeartbeats 0 in
theorem y5 (f : NF) (N : Net) (hn : N.ends.length ≤ 300) (hin : N.inputs.length = N.ends.length) (hdg : ∀ v, v < N.ends.length → (gl N.ends v).length ≤ 1000) (hrg : ∀ v i, v < N.ends.length → i < (gl N.ends v).length → -1000 ≤ (gp (gl N.ends v) i).1 ∧ (gp (gl N.ends v) i).1 ≤ 1000) :
 DCalls Tryz.prog 182 [.agg (bw f N)] (fun r => r = [.own true (netO (mu N N.ends.length))]) := by
 have h2n : (2 * (N.ends.length : Int)) = ((2 * N.ends.length : Nat) : Int) := by omega
 refine ao Tryz.func182 rfl (by rw [Tryz.ntmps182]; simp) fun w0 => ?_;rw [Tryz.ntmps182];have dX := U2;simp only [b4, bc, Arg.av, bw, b8, ints, ends];refine ab (dR fun K hK => ?_);(repeat refine eV ?_);refine aa (hK _ (wK [1, 2] ?_));clear hK K;refine ab (dR fun K hK => ?_);(repeat refine eV ?_);refine aa (hK _ (wK [1, 2, 3] ?_));clear hK K;have dX := And.intro dX (@h2n);refine ab (dR fun K hK => ?_);(repeat refine eV ?_);have dX := And.intro dX (@h2n);refine cL rfl ⟨rfl, _, rfl⟩ (by omega) (by first | exact l9) (li (2 * N.ends.length) (by omega)) ?_;rintro _ rfl;(repeat refine eV ?_);have dK := @Wy;refine aa (hK _ (ay [1, 2, 3, 4] ?_));clear hK K;refine ab ?_;refine ab (dR fun K hK => ?_);(repeat refine eV ?_);refine aa (hK _ (wK [1, 2, 3, 4, 16, 17, 18] ?_));clear hK K;refine ae ?_;refine ax (X := Nat) (fun v => v ≤ N.ends.length) (fun v => [(18, .c (.p (.int .i64 v)))]) (fun v => [((4, 0), ⟨some 27, [.sl true 103 1 ((mu N v).ends.map (esC 111)), .sl true 3 1 ((mu N v).ids.map iC), .sl true 3 1 ((mu N v).inputs.map iC)]⟩)]) (fun v => N.ends.length - v) 0 (Nat.zero_le _) (by first | rfl | (simp only [ac, pZ, simprocAttr, Int.natCast_zero] <;> rfl)) ?_;rintro v hv;intro E hE;simp only [ac, pZ, simprocAttr] at hE;subst hE;refine ab (dR fun K hK => ?_);(repeat refine eV ?_);refine aa (hK _ (wK [1, 2, 3, 4, 16, 17, 18, 19] ?_));clear hK K;refine ab (dI (fun hb => ?_) (fun hb => ?_))
 ·have hvn : v < N.ends.length := by simp at hb; omega
  refine af ?_;show DW _ _ _ _ _;refine ab (ae ?_);refine ab (dR fun K hK => ?_);(repeat refine eV ?_);refine aa (hK _ (wK [1, 2, 3, 4, 5, 6, 16, 17, 18] ?_));clear hK K;refine ab ?_;refine ab (dR fun K hK => ?_);(repeat refine eV ?_);refine aa (hK _ (wK [1, 2, 3, 4, 5, 16, 17, 18, 23, 24, 25] ?_));clear hK K;refine ae ?_;refine ax (X := Nat) (fun i => i ≤ (gl N.ends v).length) (fun i => [(25, .c (.p (.int .i64 i)))]) (fun i => [((4, 0), ⟨some 27, [.sl true 103 1 ((e8 N.ends v i).map (esC 111)), .sl true 3 1 ((mu N v).ids.map iC), .sl true 3 1 ((mu N v).inputs.map iC)]⟩)]) (fun i => (gl N.ends v).length - i) 0 (Nat.zero_le _) (by first | rfl | (simp only [ac, pZ, simprocAttr, Int.natCast_zero] <;> rfl)) ?_;rintro i hi;intro E hE;simp only [ac, pZ, simprocAttr] at hE;subst hE;have hdv := hdg v hvn;refine ab (dR fun K hK => ?_);(repeat refine eV ?_);refine aa (hK _ (wK [1, 2, 3, 4, 5, 16, 17, 18, 23, 24, 25, 26] ?_));clear hK K;refine ab (dI (fun hb => ?_) (fun hb => ?_))
  ·have hil : i < (gl N.ends v).length := by simp at hb; omega
   have hr := hrg v i hvn hil;have hl1 := ft N.ends v i;have hlo := yu hvn hi;have hhi := yv hvn hi;refine af ?_;show DW _ _ _ _ _;refine ab (ae ?_);refine ab (dR fun K hK => ?_);(repeat refine eV ?_);refine aa (hK _ (wK [1, 2, 3, 4, 5, 8, 16, 17, 18, 23, 24, 25] ?_));clear hK K;have dX := And.intro dX (And.intro @buDoubleSt9.eq_def (And.intro @ec (And.intro @mz (And.intro @hl1 (And.intro @hlo (And.intro @List.length_append.{0} @List.length_modify.{0}))))));refine ab (fg buDoubleSt9 (fun j r => match j with | _ => True) fun K hK => ?_);(repeat refine dV ?_);have dK := And.intro @jc @ki;refine bg (hK _ (ay [1, 2, 3, 4, 5, 8, 16, 17, 18, 23, 24, 25] ?_));clear hK K;have hnx := Fb hvn hil rfl
   generalize hx : v + N.ends.length = x at *
   have hx' : ((v : Int) + (N.ends.length : Int)) = (x : Int) := by omega
   have hls : ∀ A, x < ((e8 N.ends v i).set v A).length := fun A => by rw [List.length_set, hl1]; omega
   have hrw : ∀ A t2, bu (((e8 N.ends v i).set v A).map (esC t2)) x 0 = some (.sl true t2 2 ((gl (e8 N.ends v i) x).map eC)) := fun A t2 => by rw [ec (hls A), om (by omega)]
   have hrm : ∀ A t2 y, bu ((((e8 N.ends v i).set v A).map (esC t2)).modify x fun row => row.modify 0 fun _ => y) x 0 = some y := fun A t2 y => mz (hls A);have dX := And.intro dX (And.intro @buDoubleSt10.eq_def (And.intro @hx' (And.intro @hrw (And.intro @hrm (And.intro @hl1 (And.intro @hhi (And.intro @List.length_append.{0} (And.intro @List.length_modify.{0} @List.length_set.{0}))))))));refine fg buDoubleSt10 (fun j r => match j with | _ => True) fun K hK => ?_;(repeat refine dV ?_);have dK := And.intro @jc (And.intro @ki (And.intro @om @hnx));refine bg (hK _ (ay [1, 2, 3, 4, 5, 16, 17, 18, 23, 24, 25] ?_));clear hK K;refine dR fun K hK => ?_;(repeat refine eV ?_);have dK := @bi;refine aa (hK _ ?_);clear hK K;show ∃ x, _ ∧ _ ∧ Weak _ _;refine ⟨i + 1, ?_, ?_, an [1, 2, 3, 4, 5, 16, 17, 18, 23, 24, 25]⟩
   ·omega
   ·omega
  ·have hil : i = (gl N.ends v).length := by simp at hb; omega
   have hl2 : (mu N v).inputs.length = 2 * N.ends.length := r8 N v;have hfull : e8 N.ends v i = (mu N (v + 1)).ends := by rw [hil]; exact Bn
   have hnx := Lg hvn rfl;have hids : (mu N v).ids = (mu N (v + 1)).ids := rfl;refine am ?_;refine a7 [1, 2, 3, 4, 5, 16, 17, 18] (by simp only [ac, pZ, simprocAttr, hfull]; exact rfl) ?_;have dX := And.intro dX (@buDoubleSt12.eq_def);refine ab (fg buDoubleSt12 (fun j r => match j with | _ => True) fun K hK => ?_);(repeat refine dV ?_);have dK := @pn;refine bg (hK _ (ay [1, 2, 3, 4, 5, 16, 17, 18] ?_));clear hK K
   generalize hx : v + N.ends.length = x at *
   have hx' : ((v : Int) + (N.ends.length : Int)) = (x : Int) := by omega
   have hri : ∀ c, bu (((mu N v).inputs.set v c).map iC) x 0 = some (.p (.int .i64 (gi ((mu N v).inputs.set v c) x))) := fun c => b7 (by rw [List.length_set, hl2]; omega);have dX := And.intro dX (And.intro @buDoubleSt13.eq_def (And.intro @hx' (And.intro @hri @List.length_set.{0})));refine fg buDoubleSt13 (fun j r => match j with | _ => True) fun K hK => ?_;(repeat refine dV ?_);have dK := And.intro @pn (And.intro @hnx @hids);refine bg (hK _ (ay [1, 2, 3, 4, 16, 17, 18] ?_));clear hK K;refine dR fun K hK => ?_;(repeat refine eV ?_);have dK := @bi;refine aa (hK _ ?_);clear hK K;show ∃ x, _ ∧ _ ∧ Weak _ _;refine ⟨v + 1, ?_, ?_, an [1, 2, 3, 4, 16, 17, 18]⟩
   ·omega
   ·omega
 ·have hvn : v = N.ends.length := by simp at hb; omega
  subst hvn;refine am ?_;refine wK [2, 4] ?_;refine ab (dR fun K hK => ?_);(repeat refine eV ?_);refine aa (hK _ (wK [2] ?_));clear hK K;exact ak (aq Tryz.results182 (.one (.cell 2 _ _ _ _ rfl rfl ap rfl rfl (au _))) (by decide) rfl)
end
section
open Go Go.RowKit
def lg (L : List (List Int)) (k : Nat) : List Int := L.getD k []
theorem Ay {L : List (List Int)} {k : Nat} (h : k < L.length) : lg L k = L[k] := by simp [lg, h]
theorem o8 {t : TypeId} {L : List (List Int)} {k : Nat} (h : k < L.length) : bu (L.map (lsC t)) k 0 = some (.sl true t 1 ((lg L k).map iC)) := bb.2 ⟨_, by rw [List.getElem?_map, List.getElem?_eq_getElem h]; rfl, by rw [lsC, Ay h]; rfl⟩
theorem kv {t : TypeId} {L : List (List Int)} {k : Nat} (h : k < L.length) : (L.map (lsC t)).getD k [] = [.sl true t 1 ((lg L k).map iC)] := by
 rw [List.getD_eq_getElem?_getD, List.getElem?_map, List.getElem?_eq_getElem h, Ay h]; rfl
def Env.ros (e : Env) (r : Nat) (c : C) : Env := { e with s := fun x => if x = r then .c c else e.s x }
theorem D2 (e : Env) (r : Nat) (c : C) : (e.ros r c).n = e.n := rfl
theorem Ak (e : Env) (r : Nat) (c : C) (x : Nat) : (e.ros r c).s x = if x = r then .c c else e.s x := rfl
theorem qz (e : Env) (r : Nat) (c : C) (k : a8) : (e.ros r c).con k = e.con k := rfl
theorem qy (e : Env) (r : Nat) (c : C) (x : Nat) : (e.ros r c).gen x = e.gen x := rfl
theorem k9 (e : Env) (r : Nat) (c : C) (x : Nat) : (e.ros r c).dirty x = e.dirty x := rfl
theorem Me {e : Env} {r : Nat} {t : TypeId} {k : Nat} {rows : List (List C)} (hs : e.s r = .own false 1) (hc : e.con (r, 0) = some ⟨none, [.sl false t k rows]⟩) : Weak e (e.ros r (.sl false t k rows)) := fun w0 a w ⟨val, S, h⟩ => by
 refine ⟨val, S, h.sz, h.defers, h.mem, fun x => ?_, h.frm, h.low, h.rts, h.sS⟩;rw [Ak];split
 ·rename_i hx
  subst hx;have h1 := h.slot x;rw [hs] at h1;obtain ⟨-, -, hv⟩ := h1;have h2 := h.mem.node (x, 0) _ [(0, 0)] _ hc (cp _ 0);show RO w S _ _;rw [hv];exact h2
 ·exact h.slot x
theorem yr {P : Program} {w0 : Base} {y : Code} {Q : Exit → Env → Prop} {n : Nat} {Sl : List (Nat × AV)} {Cn : List (a8 × Con)} {sl2 : List (Nat × AV)} {cn2 : List (a8 × Con)} (r : Nat) (ks : List Nat) {o : Bool} {t : TypeId} {k : Nat} {rows : List (List C)}
 (hs : (mkE n Sl Cn).s r = .own false 1) (hc : (mkE n Sl Cn).con (r, 0) = some ⟨none, [.sl o t k rows]⟩)
 (h2 : keepE (((mkE n Sl Cn).frz r).ros r (.sl false t k rows)) ks = mkE n sl2 cn2) (hd : DW P w0 y Q (mkE n sl2 cn2)) : DW P w0 y Q (mkE n Sl Cn) :=
 fk (wv _ r) (fk (Me (by rw [Sy]; exact hs) (by rw [wj, if_pos rfl, hc]; rfl)) (fk (cm _ ks) (by rw [h2]; exact hd)))
section
variable {P : Program} {w0 : Base} {e e1 : Env} {a : Act} {w : World} {val : Val} {S : Nat → Prop}
theorem StV.less (h : StV w0 e a w val S) (hn : e1.n = e.n) (hs : e1.s = e.s) (hc : e1.con = e.con) (hg : e1.gen = e.gen) (hf : ∀ r g p, e1.fresh r g p → e.fresh r g p) : StV w0 e1 a w val S :=
 { sz := by rw [hn]; exact h.sz
   defers := h.defers
   mem := by rw [hc]; exact h.mem
   slot := fun s => by
    have h1 := h.slot s;rw [hs]
    cases hav : e.s s with
    | dead => trivial
    | c x => rw [hav] at h1; exact h1
    | agg xs => rw [hav] at h1; exact h1
    | own ag n => rw [hav] at h1; unfold SV; rw [hc]; exact h1
    | box => rw [hav] at h1; unfold SV; rw [hc]; exact h1
    | ref r g p ag n => rw [hav] at h1; exact ⟨by rw [hg]; exact h1.1, fun h2 => h1.2 fun i hi => hf _ _ _ (h2 i hi)⟩
    | ptr r g p k => rw [hav] at h1; exact ⟨by rw [hg]; exact h1.1, fun h2 => h1.2 (hf _ _ _ h2)⟩
    | rp xs => rw [hav] at h1; exact h1
    | fn g css => rw [hav] at h1; exact h1
    | clo g rs =>
     rw [hav] at h1;obtain ⟨vs, k1, k2, k3⟩ := h1;exact ⟨vs, k1, k2, fun i r g' hi => ⟨by rw [hg]; exact (k3 i r g' hi).1, fun h2 => (k3 i r g' hi).2 (hf _ _ _ h2)⟩⟩
    | tup ts => rw [hav] at h1; unfold SV; rw [hc]; exact h1
   frm := h.frm
   low := by rw [hc]; exact h.low
   rts := fun s hs' => h.rts s (by rw [← hn]; exact hs')
   sS := h.sS }
end
def tj (T k m j : Nat) : List (List C) := List.replicate j [.sl true T k []] ++ List.replicate (m - j) [.p (.slice none 0 0)]
theorem Ra {T k m j : Nat} (h : j < m) : bu (tj T k m j) j 0 = some (.p (.slice none 0 0)) := bb.2 ⟨[.p (.slice none 0 0)], by
 unfold tj
 rw [List.getElem?_append_right (by simp), List.length_replicate, Nat.sub_self, List.getElem?_replicate, if_pos (by omega)], rfl⟩
theorem Kj {T k m j : Nat} (h : j < m) : ((tj T k m j).modify j fun row => row.modify 0 fun _ => C.sl true T k []) = tj T k m (j + 1) := by
 apply List.ext_getElem?;intro i;unfold tj;rw [List.getElem?_modify]
 by_cases hi : j = i
 ·subst hi;rw [List.getElem?_append_right (by simp), List.length_replicate, Nat.sub_self, List.getElem?_replicate, if_pos (by omega), List.getElem?_append_left (by simp), List.getElem?_replicate, if_pos (by omega)];simp
 ·rcases Nat.lt_or_ge i j with h1 | h1
  ·rw [List.getElem?_append_left (by simp; omega), List.getElem?_append_left (by simp; omega), List.getElem?_replicate, List.getElem?_replicate, if_pos h1, if_pos (by omega)];simp [hi]
  ·rw [List.getElem?_append_right (by simp; omega), List.getElem?_append_right (by simp; omega), List.getElem?_replicate, List.getElem?_replicate, List.length_replicate, List.length_replicate]
   by_cases h2 : i < m
   ·rw [if_pos (by omega), if_pos (by omega)]; simp [hi]
   ·rw [if_neg (by omega), if_neg (by omega)]; simp
theorem xx {e : Env} {r i T k t2 m : Nat} {cn : Con} (hk : 0 < k) (hc : e.con (r, 0) = some cn) (hl : cn.xs[i]? = some (.sl true t2 1 (List.replicate m [.p (.slice none 0 0)]))) : ∀ j, j ≤ m → ∃ E, Weak e E ∧ E.n = e.n ∧ E.s = e.s ∧ (∀ key, key ≠ (r, 0) → E.con key = e.con key) ∧ E.con (r, 0) = some { cn with xs := puts cn.xs (.sl true t2 1 (tj T k m j)) [(0, i)] } ∧ E.gen = e.gen ∧ (∀ x, x ≠ r → E.dirty x = e.dirty x) ∧ (∀ d ∈ E.dirty r, d ∈ e.dirty r ∨ [(0, i)] <+: d)
 | 0, _ => by
  refine ⟨e, Weak.refl e, rfl, rfl, fun _ _ => rfl, ?_, rfl, fun _ _ => rfl, fun _ h => .inl h⟩;rw [hc]
  have : puts cn.xs (.sl true t2 1 (tj T k m 0)) [(0, i)] = cn.xs := by
   apply List.ext_getElem?;intro q;simp only [puts, List.getElem?_modify, C.put, tj, List.replicate_zero, List.nil_append, Nat.sub_zero]
   by_cases hq : i = q
   ·subst hq; rw [hl]; simp
   ·simp [hq]
  rw [this]
 | j + 1, hj => by
  obtain ⟨E, g1, g2, g3, g4, g5, g6, g7, g8⟩ := xx hk hc hl j (by omega)
  have hlook : look (puts cn.xs (.sl true t2 1 (tj T k m j)) [(0, i)]) [(0, i)] = some (.sl true t2 1 (tj T k m j)) := by
   rw [cp]; simp [puts, List.getElem?_modify, hl, C.put]
  have hl2 : look (puts cn.xs (.sl true t2 1 (tj T k m j)) [(0, i)]) ([(0, i)] ++ [(j, 0)]) = some (.p (.slice none 0 0)) :=
   (fj (by simp)).2 ⟨t2, 1, _, hlook, Ra (by omega)⟩
  have hw := wu (T := T) (k := k) g5 hl2 hk;refine ⟨_, g1.trans hw, g2, g3, fun key hkey => by simp [Env.put, hkey, g4 key hkey], ?_, g6, fun x hx => by simp [Env.put, hx, g7 x hx], fun d hd => ?_⟩
  ·simp only [Env.put, if_true, g5, Option.map_some]
   congr 2
   apply List.ext_getElem?;intro q;simp only [puts, List.cons_append, List.nil_append, List.getElem?_modify]
   by_cases hq : i = q
   ·subst hq;rw [hl];simp only [if_true, Option.map_eq_map, Option.map_some, C.put, Option.some.injEq, C.sl.injEq, true_and];exact Kj (by omega)
   ·simp [hq]
  ·simp only [Env.put, if_true] at hd
   rcases List.mem_cons.1 hd with rfl | hd
   ·exact .inr ⟨[(j, 0)], rfl⟩
   ·exact g8 d hd
theorem Jw {e : Env} {r i T k t2 m : Nat} {cn : Con} (hk : 0 < k) (hc : e.con (r, 0) = some cn) (hl : cn.xs[i]? = some (.sl true t2 1 (List.replicate m [.p (.slice none 0 0)]))) : Weak e (e.put r [(0, i)] (.sl true t2 1 (List.replicate m [.sl true T k []]))) := by
 obtain ⟨E, g1, g2, g3, g4, g5, g6, g7, g8⟩ := xx (T := T) hk hc hl m (Nat.le_refl _);refine g1.trans fun w0 a w ⟨val, S, h⟩ => ⟨val, S, h.less g2.symm g3.symm ?_ g6.symm ?_⟩
 ·funext key
  by_cases hkey : key = (r, 0)
  ·subst hkey;rw [g5];have : tj T k m m = List.replicate m [.sl true T k []] := by simp [tj]
   rw [this];simp [Env.put, hc]
  ·rw [g4 key hkey]; simp [Env.put, hkey]
 ·rintro x g p ⟨hx1, hx2⟩;refine ⟨by rw [g6]; exact hx1, fun dd hd => ?_⟩
  by_cases hxr : x = r
  ·subst hxr
   rcases g8 dd hd with h3 | h3
   ·exact hx2 dd (by simp [Env.put, h3])
   ·intro h4;exact hx2 [(0, i)] (by simp [Env.put]) (h3.trans h4)
  ·rw [g7 x hxr] at hd;exact hx2 dd (by simp [Env.put, hxr, hd])
theorem Rt {P : Program} {w0 : Base} {y : Code} {Q : Exit → Env → Prop} {n : Nat} {Sl : List (Nat × AV)} {Cn : List (a8 × Con)} {sl2 : List (Nat × AV)} {cn2 : List (a8 × Con)} (r i T k : Nat) (hk : 0 < k) {t2 m : Nat} {cn : Con} (h : (mkE n Sl Cn).con (r, 0) = some cn) (hl : cn.xs[i]? = some (.sl true t2 1 (List.replicate m [.p (.slice none 0 0)]))) (ks : List Nat)
 (h2 : keepE ((mkE n Sl Cn).put r [(0, i)] (.sl true t2 1 (List.replicate m [.sl true T k []]))) ks = mkE n sl2 cn2) (hd : DW P w0 y Q (mkE n sl2 cn2)) : DW P w0 y Q (mkE n Sl Cn) :=
 fk (Jw hk h hl) (fk (cm _ ks) (by rw [h2]; exact hd))
theorem Bx (n : Nat) : dy [.slice none 0 0] n = List.replicate n [C.p (.slice none 0 0)] := by simp [dy]
theorem zes (t : TypeId) (n : Nat) : List.replicate n [C.sl true t 2 []] = (List.replicate n []).map (esC t) := by simp [esC]
end
end Go.Proofs.YtolpiolnhgpjjaaGreat

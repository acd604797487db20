/- Parts of the proof. -/
import Derived.Test.YtolpiolnhgpjjaaGreatCJn19
import Derived.Test.YtolpiolnhgpjjaaGreatCDcv
import Derived.Test.YtolpiolnhgpjjaaGreatCDt
import Derived.Test.YtolpiolnhgpjjaaGreatCNw3
set_option linter.unusedSimpArgs false
set_option linter.unusedVariables false
namespace Go.Proofs.YtolpiolnhgpjjaaGreat
section
open Go Go.RowKit
theorem et {t2 : TypeId} {ess : List (List (Int × Int))} {k : Nat} (h : k < ess.length) : br (ess.map (esC t2)) k 0 = some (.sl true t2 2 ((gl ess k).map eC)) := bf.2 ⟨_, by rw [List.getElem?_map, List.getElem?_eq_getElem h]; rfl, by rw [esC, jg h]; rfl⟩
theorem Rp {t2 : TypeId} {ess : List (List (Int × Int))} {k : Nat} {es : List (Int × Int)} : (((ess.map (esC t2)).modify k fun row => row.modify 0 fun _ => C.hole).modify k fun row => row.modify 0 fun _ => C.sl true t2 2 (es.map eC)) = (ess.set k es).map (esC t2) := by
 apply List.ext_getElem?;intro i;simp only [List.getElem?_modify, List.getElem?_map, List.getElem?_set]
 by_cases h : k = i
 ·subst h
  by_cases hk : k < ess.length
  ·simp [List.getElem?_eq_getElem hk, hk, esC]
  ·simp [List.getElem?_eq_none (Nat.le_of_not_lt hk), hk]
 ·simp [h]
theorem ns (n : Nat) (hn : n ≤ 1000) : DCalls Tryz.prog 178 [.c (.p (.int .i64 n))] (fun r => r = [.own true (netO (dm n))]) := Al fun w vs h1 h2 => by
 obtain ⟨u, rfl, g1⟩ := Ef h1 h2;rw [uu g1];exact Dh n w (by omega)
theorem A6 {t2 : TypeId} {ess : List (List (Int × Int))} {k : Nat} {y : C} (h : k < ess.length) : br ((ess.map (esC t2)).modify k fun row => row.modify 0 fun _ => y) k 0 = some y := bf.2 ⟨[y], by simp [List.getElem?_modify, List.getElem?_eq_getElem h, esC], rfl⟩
theorem vg {t2 : TypeId} {ess : List (List (Int × Int))} {k : Nat} {es : List (Int × Int)} : ((((ess.map (esC t2)).modify k fun row => row.modify 0 fun _ => C.hole).modify k fun row => row.modify 0 fun _ => C.hole).modify k fun row => row.modify 0 fun _ => C.sl true t2 2 (es.map eC)) = (ess.set k es).map (esC t2) := by
 apply List.ext_getElem?;intro i;simp only [List.getElem?_modify, List.getElem?_map, List.getElem?_set]
 by_cases h : k = i
 ·subst h
  by_cases hk : k < ess.length
  ·simp [List.getElem?_eq_getElem hk, hk, esC]
  ·simp [List.getElem?_eq_none (Nat.le_of_not_lt hk), hk]
 ·simp [h]
end
section
open Go Go.RowKit
def B7 (n k : Nat) : List (Int × Int) := [((k + 1 : Int).tmod n, 1), ((k + n - 1 : Int).tmod n, 0)]
def kv (n k : Nat) : Net := ⟨(List.range n).map fun v => if v < k then B7 n v else [], [], List.replicate n 0⟩
theorem Un (n : Nat) : dm n = kv n 0 := by
 unfold dm kv
 congr 1
 apply List.ext_getElem
 ·simp
 ·intro i h1 h2; simp
theorem Pk {n k : Nat} (h : k < n) : (kv n k).ends.set k (B7 n k) = (kv n (k + 1)).ends := by
 unfold kv;apply List.ext_getElem
 ·simp
 ·intro i h1 h2;simp only [List.getElem_set, List.getElem_map, List.getElem_range]
  by_cases h3 : k = i
  ·subst h3; rw [if_pos rfl, if_pos (by omega)]
  ·rw [if_neg h3]
   by_cases h4 : i < k
   ·rw [if_pos h4, if_pos (by omega)]
   ·rw [if_neg h4, if_neg (by omega)]
theorem Pm {t2 : TypeId} {n k : Nat} (h : k < n) : ((((kv n k).ends.map (esC t2)).modify k fun row => row.modify 0 fun _ => C.hole).modify k fun row => row.modify 0 fun _ => C.sl true t2 2 [[C.p (.int .i64 ((k + 1 : Int).tmod n)), C.p (.int .i64 1)], [C.p (.int .i64 ((k + n - 1 : Int).tmod n)), C.p (.int .i64 0)]]) = (kv n (k + 1)).ends.map (esC t2) := by
 rw [← Pk h];exact Rp (es := B7 n k)
theorem H7 (n k : Nat) : (kv n k).ends.length = n := by simp [kv]
def buCycleSt5 : Nat → Stat
 | 0 => ⟨[3], [(3, 1)], [], [13], [], []⟩
 | 1 => ⟨[13], [(3, 1)], [], [14], [], []⟩
 | 2 => ⟨[4], [], [], [15], [], []⟩
 | 3 => ⟨[4], [], [], [16], [], []⟩
 | 4 => ⟨[16], [], [], [17], [], []⟩
 | 5 => ⟨[0], [], [], [18], [], []⟩
 | 6 => ⟨[17, 18], [], [], [19], [], []⟩
 | 7 => ⟨[19], [], [], [20], [], []⟩
 | 8 => ⟨[4], [], [], [21], [], []⟩
 | 9 => ⟨[0], [], [], [22], [], []⟩
 | 10 => ⟨[21, 22], [], [], [23], [], []⟩
 | 11 => ⟨[23], [], [], [24], [], []⟩
 | 12 => ⟨[0], [], [], [25], [], []⟩
 | 13 => ⟨[24, 25], [], [], [26], [], []⟩
 | 14 => ⟨[26], [], [], [27], [], []⟩
 | 15 => ⟨[20, 27], [], [], [28], [], []⟩
 | 16 => ⟨[14, 15], [(3, 1)], [], [29], [], []⟩
 | 17 => ⟨[29, 28], [(3, 2)], [28], [], [(3, 2), (28, 1)], []⟩
 | _ => ⟨[], [], [], [], [], []⟩
def zBCyc1 := PLift.up (And.intro aq (And.intro @netO.eq_1 (And.intro @cl (And.intro b6 (And.intro bl (And.intro bt (And.intro cr (And.intro bp (And.intro @if_pos.{1} @trivial)))))))))
theorem R9 : type_of% zBCyc1.down := zBCyc1.down
set_option maxRecDepth 8000 in
set_option maxHeartbeats 0 in
theorem Jt (n : Nat) (hn : n ≤ 600) (hp : 0 < n) : DCalls Tryz.prog 171 [.c (.p (.int .i64 n))] (fun r => r = [.own true (netO (kv n n))]) := by
 refine am Tryz.func171 rfl (by rw [Tryz.ntmps171]; simp) fun w0 => ?_;rw [Tryz.ntmps171];have dX := R9;simp only [bq, bb, Arg.av];refine ab (dR fun K hK => ?_);(repeat refine eV ?_);refine aa (hK _ (wK [0, 2] ?_));clear hK K;refine ab (dR fun K hK => ?_);(repeat refine eV ?_);refine cL rfl ⟨rfl, _, rfl⟩ (by omega) (by first | exact o7) (ns n (by omega)) ?_;rintro _ rfl;(repeat refine eV ?_);have dK := @Un;refine aa (hK _ (a7 [0, 2, 3] ?_));clear hK K;have hl := H7 n;refine ab ?_;have dX := And.intro dX (@hl);refine ab (dR fun K hK => ?_);(repeat refine eV ?_);have dK := @hl;refine aa (hK _ (a7 [0, 2, 3, 9, 10] ?_));clear hK K;refine ah ?_;refine ax (X := Nat) (fun k => k ≤ n) (fun k => [(10, .c (.p (.int .i64 k)))]) (fun k => [((3, 0), ⟨some 27, [.sl true 103 1 ((kv n k).ends.map (esC 111)), .sl true 3 1 ((kv n k).ids.map iC), .sl true 3 1 ((kv n k).inputs.map iC)]⟩)]) (fun k => n - k) 0 (Nat.zero_le _) (by first | rfl | (simp only [ac, pZ, simprocAttr, Int.natCast_zero] <;> rfl)) ?_;rintro k hk;intro E hE;simp only [ac, pZ, simprocAttr] at hE;subst hE;refine ab (dR fun K hK => ?_);(repeat refine eV ?_);refine aa (hK _ (wK [0, 2, 3, 9, 10, 11] ?_));clear hK K;refine ab (dI (fun hb => ?_) (fun hb => ?_))
 ·have hkn : k < n := by simp at hb; omega
  have hn0 : ((n : Int) = 0) ↔ False := ⟨fun h => by omega, False.elim⟩;have hl' := hl k;refine af ?_;show DW _ _ _ _ _;refine ab (ah ?_);refine ab (dR fun K hK => ?_);(repeat refine eV ?_);refine aa (hK _ (wK [0, 2, 3, 4, 9, 10] ?_));clear hK K;have dX := And.intro dX (And.intro @buCycleSt5.eq_def (And.intro @hn0 (And.intro @et @hl')));refine em buCycleSt5 (fun j r => match j with | _ => True) fun K hK => ?_;(repeat refine dV ?_);refine a6 (hK _ (ba [0, 2, 3, 9, 10] (by simp only [ac, pZ, simprocAttr , Pm hkn]; exact rfl) ?_));clear hK K;refine dR fun K hK => ?_;(repeat refine eV ?_);have dK := @bu;refine aa (hK _ ?_);clear hK K;show ∃ x, _ ∧ _ ∧ Weak _ _;refine ⟨k + 1, ?_, ?_, ay [0, 2, 3, 9, 10]⟩
  ·omega
  ·omega
 ·have hkn : k = n := by simp at hb; omega
  subst hkn;refine ao ?_;refine wK [2, 3] ?_;refine ab (dR fun K hK => ?_);(repeat refine eV ?_);refine aa (hK _ (wK [2] ?_));clear hK K;exact aj (al Tryz.results171 (.one (.cell 2 _ _ _ _ rfl rfl aq rfl rfl (ap _))) (by decide) rfl)
end
section
open Go Go.RowKit
def lg (L : List (List Int)) (k : Nat) : List Int := L.getD k []
theorem Mf {L : List (List Int)} {k : Nat} (h : k < L.length) : lg L k = L[k] := by simp [lg, h]
theorem Tg {t : TypeId} {L : List (List Int)} {k : Nat} (h : k < L.length) : br (L.map (lsC t)) k 0 = some (.sl true t 1 ((lg L k).map iC)) := bf.2 ⟨_, by rw [List.getElem?_map, List.getElem?_eq_getElem h]; rfl, by rw [lsC, Mf h]; rfl⟩
theorem Rn {t : TypeId} {L : List (List Int)} {k : Nat} (h : k < L.length) : (L.map (lsC t)).getD k [] = [.sl true t 1 ((lg L k).map iC)] := by
 rw [List.getD_eq_getElem?_getD, List.getElem?_map, List.getElem?_eq_getElem h, Mf h]; rfl
def Env.ros (e : Env) (r : Nat) (c : C) : Env := { e with s := fun x => if x = r then .c c else e.s x }
theorem Lf (e : Env) (r : Nat) (c : C) : (e.ros r c).n = e.n := rfl
theorem G7 (e : Env) (r : Nat) (c : C) (x : Nat) : (e.ros r c).s x = if x = r then .c c else e.s x := rfl
theorem Bc (e : Env) (r : Nat) (c : C) (k : a8) : (e.ros r c).con k = e.con k := rfl
theorem Bb (e : Env) (r : Nat) (c : C) (x : Nat) : (e.ros r c).gen x = e.gen x := rfl
theorem ru (e : Env) (r : Nat) (c : C) (x : Nat) : (e.ros r c).dirty x = e.dirty x := rfl
theorem Ko {e : Env} {r : Nat} {t : TypeId} {k : Nat} {rows : List (List C)} (hs : e.s r = .own false 1) (hc : e.con (r, 0) = some ⟨none, [.sl false t k rows]⟩) : Weak e (e.ros r (.sl false t k rows)) := fun w0 a w ⟨val, S, h⟩ => by
 refine ⟨val, S, h.sz, h.defers, h.mem, fun x => ?_, h.frm, h.low, h.rts, h.sS⟩;rw [G7];split
 ·rename_i hx
  subst hx;have h1 := h.slot x;rw [hs] at h1;obtain ⟨-, -, hv⟩ := h1;have h2 := h.mem.node (x, 0) _ [(0, 0)] _ hc (c9 _ 0);show RO w S _ _;rw [hv];exact h2
 ·exact h.slot x
theorem Fz {P : Program} {w0 : Base} {y : Code} {Q : Exit → Env → Prop} {n : Nat} {Sl : List (Nat × AV)} {Cn : List (a8 × Con)} {sl2 : List (Nat × AV)} {cn2 : List (a8 × Con)} (r : Nat) (ks : List Nat) {o : Bool} {t : TypeId} {k : Nat} {rows : List (List C)}
 (hs : (mkE n Sl Cn).s r = .own false 1) (hc : (mkE n Sl Cn).con (r, 0) = some ⟨none, [.sl o t k rows]⟩)
 (h2 : keepE (((mkE n Sl Cn).frz r).ros r (.sl false t k rows)) ks = mkE n sl2 cn2) (hd : DW P w0 y Q (mkE n sl2 cn2)) : DW P w0 y Q (mkE n Sl Cn) :=
 gg (pn _ r) (gg (Ko (by rw [Qf]; exact hs) (by rw [vf, if_pos rfl, hc]; rfl)) (gg (aw _ ks) (by rw [h2]; exact hd)))
section
variable {P : Program} {w0 : Base} {e e1 : Env} {a : Act} {w : World} {val : Val} {S : Nat → Prop}
end
end
end Go.Proofs.YtolpiolnhgpjjaaGreat

/- Parts of the proof. -/
import Derived.Test.YtolpiolnhgpjjaaGreatCJn19
import Derived.Test.YtolpiolnhgpjjaaGreatCDcv
import Derived.Test.YtolpiolnhgpjjaaGreatCDt
import Derived.Test.YtolpiolnhgpjjaaGreatCNw3
set_option linter.unusedSimpArgs false
set_option linter.unusedVariables false
namespace Go.Proofs.YtolpiolnhgpjjaaGreat
section
open Go Go.RowKit
theorem fj {t2 : TypeId} {ess : List (List (Int × Int))} {k : Nat} (h : k < ess.length) : cd (ess.map (esC t2)) k 0 = some (.sl true t2 2 ((gl ess k).map eC)) := bw.2 ⟨_, by rw [List.getElem?_map, List.getElem?_eq_getElem h]; rfl, by rw [esC, jx h]; rfl⟩
theorem Vf {t2 : TypeId} {ess : List (List (Int × Int))} {k : Nat} {es : List (Int × Int)} : (((ess.map (esC t2)).modify k fun row => row.modify 0 fun _ => C.hole).modify k fun row => row.modify 0 fun _ => C.sl true t2 2 (es.map eC)) = (ess.set k es).map (esC t2) := by
 apply List.ext_getElem?;intro i;simp only [List.getElem?_modify, List.getElem?_map, List.getElem?_set]
 by_cases h : k = i
 ·subst h
  by_cases hk : k < ess.length
  ·simp [List.getElem?_eq_getElem hk, hk, esC]
  ·simp [List.getElem?_eq_none (Nat.le_of_not_lt hk), hk]
 ·simp [h]
theorem pe (n : Nat) (hn : n ≤ 1000) : DCalls Tryz.prog 178 [.c (.p (.int .i64 n))] (fun r => r = [.own true (netO (d7 n))]) := Ce fun w vs h1 h2 => by
 obtain ⟨u, rfl, g1⟩ := Cm h1 h2;rw [rn g1];exact Ff n w (by omega)
theorem Cw {t2 : TypeId} {ess : List (List (Int × Int))} {k : Nat} {y : C} (h : k < ess.length) : cd ((ess.map (esC t2)).modify k fun row => row.modify 0 fun _ => y) k 0 = some y := bw.2 ⟨[y], by simp [List.getElem?_modify, List.getElem?_eq_getElem h, esC], rfl⟩
theorem xo {t2 : TypeId} {ess : List (List (Int × Int))} {k : Nat} {es : List (Int × Int)} : ((((ess.map (esC t2)).modify k fun row => row.modify 0 fun _ => C.hole).modify k fun row => row.modify 0 fun _ => C.hole).modify k fun row => row.modify 0 fun _ => C.sl true t2 2 (es.map eC)) = (ess.set k es).map (esC t2) := by
 apply List.ext_getElem?;intro i;simp only [List.getElem?_modify, List.getElem?_map, List.getElem?_set]
 by_cases h : k = i
 ·subst h
  by_cases hk : k < ess.length
  ·simp [List.getElem?_eq_getElem hk, hk, esC]
  ·simp [List.getElem?_eq_none (Nat.le_of_not_lt hk), hk]
 ·simp [h]
end
section
open Go Go.RowKit
def Dt (n k : Nat) : List (Int × Int) := [((k + 1 : Int).tmod n, 1), ((k + n - 1 : Int).tmod n, 0)]
def lv (n k : Nat) : Net := ⟨(List.range n).map fun v => if v < k then Dt n v else [], [], List.replicate n 0⟩
theorem Yt (n : Nat) : d7 n = lv n 0 := by
 unfold d7 lv
 congr 1
 apply List.ext_getElem
 ·simp
 ·intro i h1 h2; simp
theorem S4 {n k : Nat} (h : k < n) : (lv n k).ends.set k (Dt n k) = (lv n (k + 1)).ends := by
 unfold lv;apply List.ext_getElem
 ·simp
 ·intro i h1 h2;simp only [List.getElem_set, List.getElem_map, List.getElem_range]
  by_cases h3 : k = i
  ·subst h3; rw [if_pos rfl, if_pos (by omega)]
  ·rw [if_neg h3]
   by_cases h4 : i < k
   ·rw [if_pos h4, if_pos (by omega)]
   ·rw [if_neg h4, if_neg (by omega)]
theorem S5 {t2 : TypeId} {n k : Nat} (h : k < n) : ((((lv n k).ends.map (esC t2)).modify k fun row => row.modify 0 fun _ => C.hole).modify k fun row => row.modify 0 fun _ => C.sl true t2 2 [[C.p (.int .i64 ((k + 1 : Int).tmod n)), C.p (.int .i64 1)], [C.p (.int .i64 ((k + n - 1 : Int).tmod n)), C.p (.int .i64 0)]]) = (lv n (k + 1)).ends.map (esC t2) := by
 rw [← S4 h];exact Vf (es := Dt n k)
theorem Ku (n k : Nat) : (lv n k).ends.length = n := by simp [lv]
def buCycleSt5 : Nat → Stat
 | 0 => ⟨[3], [(3, 1)], [], [13], [], []⟩
 | 1 => ⟨[13], [(3, 1)], [], [14], [], []⟩
 | 2 => ⟨[4], [], [], [15], [], []⟩
 | 3 => ⟨[4], [], [], [16], [], []⟩
 | 4 => ⟨[16], [], [], [17], [], []⟩
 | 5 => ⟨[0], [], [], [18], [], []⟩
 | 6 => ⟨[17, 18], [], [], [19], [], []⟩
 | 7 => ⟨[19], [], [], [20], [], []⟩
 | 8 => ⟨[4], [], [], [21], [], []⟩
 | 9 => ⟨[0], [], [], [22], [], []⟩
 | 10 => ⟨[21, 22], [], [], [23], [], []⟩
 | 11 => ⟨[23], [], [], [24], [], []⟩
 | 12 => ⟨[0], [], [], [25], [], []⟩
 | 13 => ⟨[24, 25], [], [], [26], [], []⟩
 | 14 => ⟨[26], [], [], [27], [], []⟩
 | 15 => ⟨[20, 27], [], [], [28], [], []⟩
 | 16 => ⟨[14, 15], [(3, 1)], [], [29], [], []⟩
 | 17 => ⟨[29, 28], [(3, 2)], [28], [], [(3, 2), (28, 1)], []⟩
 | _ => ⟨[], [], [], [], [], []⟩
def zBCyc1 := PLift.up (And.intro ap (And.intro @netO.eq_1 (And.intro @b6 (And.intro bg (And.intro ay (And.intro ca (And.intro b9 (And.intro bc (And.intro @if_pos.{1} @trivial)))))))))
theorem V4 : type_of% zBCyc1.down := zBCyc1.down
set_option maxRecDepth 8000 in
set_option maxHeartbeats 0 in
theorem Mw (n : Nat) (hn : n ≤ 600) (hp : 0 < n) : DCalls Tryz.prog 171 [.c (.p (.int .i64 n))] (fun r => r = [.own true (netO (lv n n))]) := by
 refine am Tryz.func171 rfl (by rw [Tryz.ntmps171]; simp) fun w0 => ?_;rw [Tryz.ntmps171];have dX := V4;simp only [b4, bd, Arg.av];refine ab (dR fun K hK => ?_);(repeat refine eV ?_);refine aa (hK _ (wK [0, 2] ?_));clear hK K;refine ab (dR fun K hK => ?_);(repeat refine eV ?_);refine cL rfl ⟨rfl, _, rfl⟩ (by omega) (by first | exact qz) (pe n (by omega)) ?_;rintro _ rfl;(repeat refine eV ?_);have dK := @Yt;refine aa (hK _ (ax [0, 2, 3] ?_));clear hK K;have hl := Ku n;refine ab ?_;have dX := And.intro dX (@hl);refine ab (dR fun K hK => ?_);(repeat refine eV ?_);have dK := @hl;refine aa (hK _ (ax [0, 2, 3, 9, 10] ?_));clear hK K;refine ae ?_;refine au (X := Nat) (fun k => k ≤ n) (fun k => [(10, .c (.p (.int .i64 k)))]) (fun k => [((3, 0), ⟨some 27, [.sl true 103 1 ((lv n k).ends.map (esC 111)), .sl true 3 1 ((lv n k).ids.map iC), .sl true 3 1 ((lv n k).inputs.map iC)]⟩)]) (fun k => n - k) 0 (Nat.zero_le _) (by first | rfl | (simp only [ac, pZ, simprocAttr, Int.natCast_zero] <;> rfl)) ?_;rintro k hk;intro E hE;simp only [ac, pZ, simprocAttr] at hE;subst hE;refine ab (dR fun K hK => ?_);(repeat refine eV ?_);refine aa (hK _ (wK [0, 2, 3, 9, 10, 11] ?_));clear hK K;refine ab (dI (fun hb => ?_) (fun hb => ?_))
 ·have hkn : k < n := by simp at hb; omega
  have hn0 : ((n : Int) = 0) ↔ False := ⟨fun h => by omega, False.elim⟩;have hl' := hl k;refine af ?_;show DW _ _ _ _ _;refine ab (ae ?_);refine ab (dR fun K hK => ?_);(repeat refine eV ?_);refine aa (hK _ (wK [0, 2, 3, 4, 9, 10] ?_));clear hK K;have dX := And.intro dX (And.intro @buCycleSt5.eq_def (And.intro @hn0 (And.intro @fj @hl')));refine fk buCycleSt5 (fun j r => match j with | _ => True) fun K hK => ?_;(repeat refine dV ?_);refine br (hK _ (bb [0, 2, 3, 9, 10] (by simp only [ac, pZ, simprocAttr , S5 hkn]; exact rfl) ?_));clear hK K;refine dR fun K hK => ?_;(repeat refine eV ?_);have dK := @bt;refine aa (hK _ ?_);clear hK K;show ∃ x, _ ∧ _ ∧ Weak _ _;refine ⟨k + 1, ?_, ?_, aq [0, 2, 3, 9, 10]⟩
  ·omega
  ·omega
 ·have hkn : k = n := by simp at hb; omega
  subst hkn;refine ao ?_;refine wK [2, 3] ?_;refine ab (dR fun K hK => ?_);(repeat refine eV ?_);refine aa (hK _ (wK [2] ?_));clear hK K;exact ak (an Tryz.results171 (.one (.cell 2 _ _ _ _ rfl rfl ap rfl rfl (a7 _))) (by decide) rfl)
end
section
open Go Go.RowKit
def lg (L : List (List Int)) (k : Nat) : List Int := L.getD k []
theorem Px {L : List (List Int)} {k : Nat} (h : k < L.length) : lg L k = L[k] := by simp [lg, h]
theorem Ro (t : TypeId) (L : List (List Int)) (l : List Int) : L.map (lsC t) ++ [[C.sl true t 1 (l.map iC)]] = (L ++ [l]).map (lsC t) := by simp [lsC]
theorem dx {t : TypeId} {L : List (List Int)} {k : Nat} (h : k < L.length) : cd (L.map (lsC t)) k 0 = some (.sl true t 1 ((lg L k).map iC)) := bw.2 ⟨_, by rw [List.getElem?_map, List.getElem?_eq_getElem h]; rfl, by rw [lsC, Px h]; rfl⟩
def Cr (n : Nat) (f : Nat → List Int) : List (List Int) := (List.range n).map f
theorem nf (n : Nat) (f : Nat → List Int) : (Cr n f).length = n := by simp [Cr]
theorem Ii {n k : Nat} {f : Nat → List Int} (h : k < n) : lg (Cr n f) k = f k := by rw [Px (by rw [nf]; exact h)]; simp [Cr]
theorem Lf (n : Nat) (f : Nat → List Int) : Cr (n + 1) f = Cr n f ++ [f n] := by simp [Cr, List.range_succ]
theorem cq {t : TypeId} {L : List (List Int)} {k : Nat} (h : k < L.length) : (L.map (lsC t)).getD k [] = [.sl true t 1 ((lg L k).map iC)] := by
 rw [List.getD_eq_getElem?_getD, List.getElem?_map, List.getElem?_eq_getElem h, Px h]; rfl
def Env.ros (e : Env) (r : Nat) (c : C) : Env := { e with s := fun x => if x = r then .c c else e.s x }
theorem sj (e : Env) (r : Nat) (c : C) : (e.ros r c).n = e.n := rfl
theorem qc (e : Env) (r : Nat) (c : C) (x : Nat) : (e.ros r c).s x = if x = r then .c c else e.s x := rfl
theorem jf (e : Env) (r : Nat) (c : C) (k : bh) : (e.ros r c).con k = e.con k := rfl
theorem je (e : Env) (r : Nat) (c : C) (x : Nat) : (e.ros r c).gen x = e.gen x := rfl
theorem fw (e : Env) (r : Nat) (c : C) (x : Nat) : (e.ros r c).dirty x = e.dirty x := rfl
theorem Nu {e : Env} {r : Nat} {t : TypeId} {k : Nat} {rows : List (List C)} (hs : e.s r = .own false 1) (hc : e.con (r, 0) = some ⟨none, [.sl false t k rows]⟩) : Weak e (e.ros r (.sl false t k rows)) := fun w0 a w ⟨val, S, h⟩ => by
 refine ⟨val, S, h.sz, h.defers, h.mem, fun x => ?_, h.frm, h.low, h.rts, h.sS⟩;rw [qc];split
 ·rename_i hx
  subst hx;have h1 := h.slot x;rw [hs] at h1;obtain ⟨-, -, hv⟩ := h1;have h2 := h.mem.node (x, 0) _ [(0, 0)] _ hc (cf _ 0);show RO w S _ _;rw [hv];exact h2
 ·exact h.slot x
theorem mh {P : Program} {w0 : Base} {y : Code} {Q : Exit → Env → Prop} {n : Nat} {Sl : List (Nat × AV)} {Cn : List (bh × Con)} {sl2 : List (Nat × AV)} {cn2 : List (bh × Con)} (r : Nat) (ks : List Nat) {o : Bool} {t : TypeId} {k : Nat} {rows : List (List C)}
 (hs : (mkE n Sl Cn).s r = .own false 1) (hc : (mkE n Sl Cn).con (r, 0) = some ⟨none, [.sl o t k rows]⟩)
 (h2 : keepE (((mkE n Sl Cn).frz r).ros r (.sl false t k rows)) ks = mkE n sl2 cn2) (hd : DW P w0 y Q (mkE n sl2 cn2)) : DW P w0 y Q (mkE n Sl Cn) :=
 fx (xr _ r) (fx (Nu (by rw [T1]; exact hs) (by rw [xn, if_pos rfl, hc]; rfl)) (fx (ch _ ks) (by rw [h2]; exact hd)))
section
variable {P : Program} {w0 : Base} {e e1 : Env} {a : Act} {w : World} {val : Val} {S : Nat → Prop}
theorem StV.less (h : StV w0 e a w val S) (hn : e1.n = e.n) (hs : e1.s = e.s) (hc : e1.con = e.con) (hg : e1.gen = e.gen) (hf : ∀ r g p, e1.fresh r g p → e.fresh r g p) : StV w0 e1 a w val S :=
 { sz := by rw [hn]; exact h.sz
   defers := h.defers
   mem := by rw [hc]; exact h.mem
   slot := fun s => by
    have h1 := h.slot s;rw [hs]
    cases hav : e.s s with
    | dead => trivial
    | c x => rw [hav] at h1; exact h1
    | agg xs => rw [hav] at h1; exact h1
    | own ag n => rw [hav] at h1; unfold SV; rw [hc]; exact h1
    | box => rw [hav] at h1; unfold SV; rw [hc]; exact h1
    | ref r g p ag n => rw [hav] at h1; exact ⟨by rw [hg]; exact h1.1, fun h2 => h1.2 fun i hi => hf _ _ _ (h2 i hi)⟩
    | ptr r g p k => rw [hav] at h1; exact ⟨by rw [hg]; exact h1.1, fun h2 => h1.2 (hf _ _ _ h2)⟩
    | rp xs => rw [hav] at h1; exact h1
    | fn g css => rw [hav] at h1; exact h1
    | clo g rs =>
     rw [hav] at h1;obtain ⟨vs, k1, k2, k3⟩ := h1;exact ⟨vs, k1, k2, fun i r g' hi => ⟨by rw [hg]; exact (k3 i r g' hi).1, fun h2 => (k3 i r g' hi).2 (hf _ _ _ h2)⟩⟩
    | tup ts => rw [hav] at h1; unfold SV; rw [hc]; exact h1
   frm := h.frm
   low := by rw [hc]; exact h.low
   rts := fun s hs' => h.rts s (by rw [← hn]; exact hs')
   sS := h.sS }
end
end
end Go.Proofs.YtolpiolnhgpjjaaGreat

/- Parts of the proof. -/
import Derived.Test.YtolpiolnhgpjjaaGreatCJn21
import Derived.Test.YtolpiolnhgpjjaaGreatCDt
set_option linter.unusedSimpArgs false
set_option linter.unusedVariables false
namespace Go.Proofs.YtolpiolnhgpjjaaGreat
section
set_option maxHeartbeats 0
set_option maxRecDepth 8000
open Go Go.RowKit
def mg (N : Net) (v i : Nat) : Bool := decide ((v : Int) < (gp (gl N.ends v) i).1) || (decide ((v : Int) = (gp (gl N.ends v) i).1) && decide ((i : Int) ≤ (gp (gl N.ends v) i).2))
def zBEd11 := PLift.up (And.intro ew (And.intro ap (And.intro bl (And.intro az (And.intro @if_pos.{1} (And.intro be (And.intro @b7 (And.intro ce (And.intro bh (And.intro @dm (And.intro @dl (And.intro @List.take_succ_cons.{0} (And.intro @List.take_zero.{0} @trivial)))))))))))))
theorem O8 : type_of% zBEd11.down := zBEd11.down
theorem Ks (f : NF) (N : Net) (v i : Nat) (hv : v < N.ends.length) (hi : i < (gl N.ends v).length) : DCalls Tryz.prog 196 [.agg (bw f N), .c (.p (.int .i64 v)), .c (.p (.int .i64 i))] (fun r => r = [.c (.p (.bool (mg N v i)))]) := by
 refine ao Tryz.func196 rfl (by rw [Tryz.ntmps196]; simp) fun w0 => ?_;rw [Tryz.ntmps196];have dX := O8;simp only [b4, bc, Arg.av, bw, b8, ints, ends];refine ab (dR fun K hK => ?_);(repeat refine eV ?_);refine aa (hK _ (wK [1, 2, 3] ?_));clear hK K;refine ab (dR fun K hK => ?_);(repeat refine eV ?_);refine aa (hK _ (wK [1, 2, 7] ?_));clear hK K;refine ab (dR fun K hK => ?_);(repeat refine eV ?_);obtain h | h := Bool.eq_false_or_eq_true (decide ((v : Int) < (gp (gl N.ends v) i).1))
 ·have dX := And.intro dX (@h);(repeat refine eV ?_);refine aa (hK _ (wK [6] ?_));clear hK K;exact ak (aq Tryz.results196 (.one (.plain _ _ rfl)) (by decide) (by rw [mg, h]; rfl))
 ·have dX := And.intro dX (@h);(repeat refine eV ?_);obtain h2 | h2 := Bool.eq_false_or_eq_true ((v : Int) == (gp (gl N.ends v) i).1)
  ·have dX := And.intro dX (And.intro @h @h2);(repeat refine eV ?_);refine aa (hK _ (wK [6] ?_));clear hK K;exact ak (aq Tryz.results196 (.one (.plain _ _ rfl)) (by decide) (by rw [mg, h, show decide ((v : Int) = (gp (gl N.ends v) i).1) = true by simpa using h2]; rfl))
  ·have dX := And.intro dX (And.intro @h @h2);(repeat refine eV ?_);refine aa (hK _ (wK [6] ?_));clear hK K;exact ak (aq Tryz.results196 (.one (.plain _ _ rfl)) (by decide) (by rw [mg, h, show decide ((v : Int) = (gp (gl N.ends v) i).1) = false by simpa using h2]; rfl))
def yo (N : Net) (v i : Nat) : List (List Int) := if mg N v i = true then [[(v : Int), (i : Int), (gp (gl N.ends v) i).1, (gp (gl N.ends v) i).2]] else []
def ga (N : Net) (v m : Nat) : List (List Int) := (List.range m).flatMap (yo N v)
def ja (N : Net) (m : Nat) : List (List Int) := (List.range m).flatMap fun v => ga N v (gl N.ends v).length
theorem E6 (N : Net) (v : Nat) : ga N v 0 = [] := rfl
theorem kj (N : Net) (v m : Nat) : ga N v (m + 1) = ga N v m ++ yo N v m := by simp [ga, List.range_succ]
theorem qf (N : Net) (m : Nat) : ja N (m + 1) = ja N m ++ ga N m (gl N.ends m).length := by simp [ja, List.range_succ]
theorem yp (N : Net) (v m : Nat) : (ga N v m).length ≤ m := by
 induction m with
 | zero => simp [ga]
 | succ m ih =>
  rw [kj, List.length_append];have : (yo N v m).length ≤ 1 := by unfold yo; split <;> simp
  omega
theorem Bj (N : Net) : ∀ m, m ≤ N.ends.length → (∀ v, v < N.ends.length → (gl N.ends v).length ≤ 1000) → (ja N m).length ≤ m * 1000
 | 0, _, _ => by simp [ja]
 | m + 1, h, hd => by
  rw [qf, List.length_append, Nat.add_mul];have h1 := Bj N m (by omega) hd;have h2 := yp N m (gl N.ends m).length;have h3 := hd m (by omega);omega
theorem Mq (t : TypeId) (L : List (List Int)) (a b c d : Int) : L.map (lsC t) ++ [[C.sl true t 1 [[C.p (.int .i64 a)], [C.p (.int .i64 b)], [C.p (.int .i64 c)], [C.p (.int .i64 d)]]]] = (L ++ [[a, b, c, d]]).map (lsC t) := by simp [lsC, iC]
theorem Ku (f : NF) (N : Net) (hl : N.ends.length ≤ 1000) (hd : ∀ v, v < N.ends.length → (gl N.ends v).length ≤ 1000) : DCalls Tryz.prog 161 [.agg (bw f N)] (fun r => r = [.own false [.sl true 25 1 ((ja N N.ends.length).map (lsC 3))]]) := by
 refine ao Tryz.func161 rfl (by rw [Tryz.ntmps161]; simp) fun w0 => ?_;rw [Tryz.ntmps161];have dX := O8;simp only [b4, bc, Arg.av, bw, b8, ints, ends];refine ab (dR fun K hK => ?_);(repeat refine eV ?_);refine aa (hK _ (wK [1] ?_));clear hK K;refine ab (dR fun K hK => ?_);(repeat refine eV ?_);refine aa (hK _ (wK [1, 3] ?_));clear hK K;refine ab ?_;refine ab (dR fun K hK => ?_);(repeat refine eV ?_);refine aa (hK _ (wK [1, 3, 9, 10, 11] ?_));clear hK K;refine ae ?_;refine ii 3 25 1 (by decide) (by simp only [ac, pZ, simprocAttr]) [1, 3, 9, 10, 11] (by simp only [ac, pZ, simprocAttr]; exact rfl) ?_;refine ax (X := Nat) (fun k => k ≤ N.ends.length) (fun k => [(11, .c (.p (.int .i64 k)))]) (fun k => [((3, 0), ⟨none, [.sl true 25 1 ((ja N k).map (lsC 3))]⟩)]) (fun k => N.ends.length - k) 0 (Nat.zero_le _) (by first | rfl | (simp only [ac, pZ, simprocAttr, Int.natCast_zero] <;> rfl)) ?_;rintro k hk;intro E hE;simp only [ac, pZ, simprocAttr] at hE;subst hE;refine ab (dR fun K hK => ?_);(repeat refine eV ?_);refine aa (hK _ (wK [1, 3, 9, 10, 11, 12] ?_));clear hK K;refine ab (dI (fun hb => ?_) (fun hb => ?_))
 ·refine af ?_;show DW _ _ _ _ _;have hk1 : k < N.ends.length := by simpa using hb
  refine ab (ae ?_);refine ab (dR fun K hK => ?_);(repeat refine eV ?_);refine aa (hK _ (wK [1, 3, 4, 5, 9, 10, 11] ?_));clear hK K;refine ab (dR fun K hK => ?_);(repeat refine eV ?_);refine aa (hK _ (wK [1, 3, 4, 9, 10, 11, 16, 17, 18] ?_));clear hK K;refine ae ?_;have hdk := hd k hk1;refine ax (X := Nat) (fun i => i ≤ (gl N.ends k).length) (fun i => [(18, .c (.p (.int .i64 i)))]) (fun i => [((3, 0), ⟨none, [.sl true 25 1 ((ja N k ++ ga N k i).map (lsC 3))]⟩)]) (fun i => (gl N.ends k).length - i) 0 (Nat.zero_le _) (by first | rfl | (simp only [ac, pZ, simprocAttr, Int.natCast_zero, E6] <;> rfl)) ?_;rintro i hi;intro E hE;simp only [ac, pZ, simprocAttr] at hE;subst hE;refine ab (dR fun K hK => ?_);(repeat refine eV ?_);refine aa (hK _ (wK [1, 3, 4, 9, 10, 11, 16, 17, 18, 19] ?_));clear hK K;refine ab (dI (fun hb => ?_) (fun hb => ?_))
  ·refine af ?_;show DW _ _ _ _ _;have hi1 : i < (gl N.ends k).length := by simpa using hb
   have hlen : (ja N k ++ ga N k i).length ≤ 2000000 := by
    rw [List.length_append];have h1 := Bj N k (by omega) hd;have h2 := yp N k i;have h3 : k * 1000 ≤ 1000 * 1000 := Nat.mul_le_mul_right 1000 (by omega);omega
   refine ab (ae ?_);refine ab (dR fun K hK => ?_);(repeat refine eV ?_);refine aa (hK _ (wK [1, 3, 4, 6, 7, 9, 10, 11, 16, 17, 18] ?_));clear hK K;refine ab (dR fun K hK => ?_);(repeat refine eV ?_);refine cL rfl ⟨rfl, _, rfl⟩ (by omega) (by first | exact T2) (Ks ⟨false, f.t1, f.o2, f.t2, false, f.t3, false, f.t4⟩ N k i hk1 hi1) ?_;rintro _ rfl;(repeat refine eV ?_);refine aa (hK _ (wK [1, 3, 4, 6, 7, 9, 10, 11, 16, 17, 18, 26] ?_));clear hK K;refine dI ?_ ?_<;>intro hb
   ·have he : ga N k (i + 1) = ga N k i ++ [[(k : Int), (i : Int), (gp (gl N.ends k) i).1, (gp (gl N.ends k) i).2]] := by rw [kj, yo, if_pos hb]
    refine dR fun K hK => ?_;(repeat refine eV ?_);have dK := @l8;refine aa (hK _ (ay [1, 3, 4, 9, 10, 11, 16, 17, 18] ?_));clear hK K;refine dR fun K hK => ?_;(repeat refine eV ?_);have dK := And.intro @bi (And.intro @he (And.intro @Mq @List.append_assoc.{0}));refine aa (hK _ ?_);clear hK K;show ∃ x, _ ∧ _ ∧ Weak _ _;refine ⟨i + 1, ?_, ?_, an [1, 3, 4, 9, 10, 11, 16, 17, 18]⟩
    ·omega
    ·omega
   ·have he : ga N k (i + 1) = ga N k i := by rw [kj, yo, if_neg (by rw [hb]; simp), List.append_nil]
    refine af ?_;show DW _ _ _ _ _;refine dR fun K hK => ?_;(repeat refine eV ?_);have dK := And.intro @bi @he;refine aa (hK _ ?_);clear hK K;show ∃ x, _ ∧ _ ∧ Weak _ _;refine ⟨i + 1, ?_, ?_, an [1, 3, 4, 9, 10, 11, 16, 17, 18]⟩
    ·omega
    ·omega
  ·have hi2 : i = (gl N.ends k).length := by
    have : ¬ i < (gl N.ends k).length := by simpa using hb
    omega
   have he := qf N k;rw [← hi2] at he;refine am ?_;refine wK [1, 3, 9, 10, 11] ?_;refine dR fun K hK => ?_;(repeat refine eV ?_);have dK := And.intro @bi @he;refine aa (hK _ ?_);clear hK K;show ∃ x, _ ∧ _ ∧ Weak _ _;refine ⟨k + 1, ?_, ?_, an [1, 3, 9, 10, 11]⟩
   ·omega
   ·omega
 ·have hk2 : k = N.ends.length := by
   have : ¬ k < N.ends.length := by simpa using hb
   omega
  refine am ?_;refine wK [3] ?_;refine ab (dR fun K hK => ?_);(repeat refine eV ?_);refine aa (hK _ (wK [2] ?_));clear hK K;exact ak (aq Tryz.results161 (.one (.own _ _ _ _ rfl rfl (own1 (D7 _ _ _)))) (by decide) (by rw [hk2]))
end
section
open Go Go.RowKit
def zBDlo1 := PLift.up (And.intro bh (And.intro ce (And.intro @if_pos.{1} (And.intro @b7 @trivial))))
theorem U0 : type_of% zBDlo1.down := zBDlo1.down
set_option maxRecDepth 8000 in
set_option maxHeartbeats 0 in
theorem I8 (o : Bool) (t : TypeId) (xs : List Int) (hn : xs.length ≤ 1000000) : DCalls Tryz.prog 211 [.c (.sl o t 1 (xs.map iC))] (fun r => r = [.own false [.sl true 3 1 (xs.map iC)]]) := by
 refine ao Tryz.func211 rfl (by rw [Tryz.ntmps211]; simp) fun w0 => ?_;rw [Tryz.ntmps211];have dX := U0;simp only [b4, bc, Arg.av, bw, b8, ints, ends];refine ab (dR fun K hK => ?_);(repeat refine eV ?_);refine aa (hK _ (wK [0] ?_));clear hK K;refine ab (dR fun K hK => ?_);(repeat refine eV ?_);refine aa (hK _ (wK [2] ?_));clear hK K;exact ak (aq Tryz.results211 (.one (.own _ _ _ _ rfl rfl (own1 (bn _ _)))) (by decide) rfl)
end
section
open Go Go.RowKit
def mst (a b : Int) : Int := if a > b then a else b
def zBDw11 := PLift.up (trivial)
theorem Ur : type_of% zBDw11.down := zBDw11.down
theorem Om (a b : Int) : DCalls Tryz.prog 162 [.c (.p (.int .i64 a)), .c (.p (.int .i64 b))] (fun r => r = [.c (.p (.int .i64 (mst a b)))]) := by
 refine ao Tryz.func162 rfl (by rw [Tryz.ntmps162]; simp) fun w0 => ?_;rw [Tryz.ntmps162];have dX := Ur;simp only [b4, bc, Arg.av];refine ab (dR fun K hK => ?_);(repeat refine eV ?_);refine aa (hK _ (wK [0, 1] ?_));clear hK K;refine ab ?_;refine ab (dR fun K hK => ?_);(repeat refine eV ?_);refine aa (hK _ (wK [0, 1, 7] ?_));clear hK K;refine dI ?_ ?_<;>intro hb
 ·refine ab (dR fun K hK => ?_);(repeat refine eV ?_);refine aa (hK _ (wK [4] ?_));clear hK K;exact ak (aq Tryz.results162 (.one (.plain _ _ rfl)) (by decide) (by rw [mst, if_pos (by simpa using hb)]))
 ·refine af ?_;show DW _ _ _ _ _;refine ab (dR fun K hK => ?_);(repeat refine eV ?_);refine aa (hK _ (wK [4] ?_));clear hK K;exact ak (aq Tryz.results162 (.one (.plain _ _ rfl)) (by decide) (by rw [mst, if_neg (by simpa using hb)]))
end
end Go.Proofs.YtolpiolnhgpjjaaGreat

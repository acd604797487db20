/- Parts of the proof. -/
import Derived.Test.YtolpiolnhgpjjaaGreatCJn19
import Derived.Test.YtolpiolnhgpjjaaGreatCDcv
import Derived.Test.YtolpiolnhgpjjaaGreatCDt
import Derived.Test.YtolpiolnhgpjjaaGreatCJn9
set_option linter.unusedSimpArgs false
set_option linter.unusedVariables false
namespace Go.Proofs.YtolpiolnhgpjjaaGreat
section
open Go Go.RowKit
def zf (xs ys : List Int) : Bool := decide (xs = ys)
theorem E0 (xs : List Int) : zf xs xs = true := decide_eq_true rfl
theorem La {xs ys : List Int} (hl : xs.length = ys.length) (h : ∀ j, j < xs.length → gi xs j = gi ys j) : zf xs ys = true := by
 refine decide_eq_true (List.ext_getElem hl fun i h1 h2 => ?_);have := h i h1;rwa [cw h1, cw h2] at this
def sameIntsSt6 : Nat → Stat
 | 0 => ⟨[0], [], [], [16], [], []⟩
 | 1 => ⟨[5], [], [], [17], [], []⟩
 | 2 => ⟨[16, 17], [], [], [18], [], []⟩
 | 3 => ⟨[18], [], [], [19], [], []⟩
 | 4 => ⟨[1], [], [], [20], [], []⟩
 | 5 => ⟨[5], [], [], [21], [], []⟩
 | 6 => ⟨[20, 21], [], [], [22], [], []⟩
 | 7 => ⟨[22], [], [], [23], [], []⟩
 | 8 => ⟨[19, 23], [], [], [24], [], []⟩
 | _ => ⟨[], [], [], [], [], []⟩
def zBDsm1 := PLift.up (And.intro bp (And.intro cr (And.intro @if_pos.{1} (And.intro @bw @trivial))))
theorem Rz : type_of% zBDsm1.down := zBDsm1.down
set_option maxRecDepth 8000 in
set_option maxHeartbeats 0 in
theorem E2 (o : Bool) (t : TypeId) (xs : List Int) (o2 : Bool) (t2 : TypeId) (ys : List Int) (hxl : xs.length ≤ 1000000) (hyl : ys.length ≤ 1000000) : DCalls Tryz.prog 11 [.c (.sl o t 1 (xs.map iC)), .c (.sl o2 t2 1 (ys.map iC))] (fun q => q = [.c (.p (.bool (zf xs ys)))]) := by
 refine am Tryz.func11 rfl (by rw [Tryz.ntmps11]; simp) fun w0 => ?_;rw [Tryz.ntmps11];have dX := Rz;simp only [bq, bb, Arg.av, bj, bv, ints, ends];refine ab (dR fun K hK => ?_);(repeat refine eV ?_);refine aa (hK _ (wK [0, 1] ?_));clear hK K;refine ab ?_;refine ab (dR fun K hK => ?_);(repeat refine eV ?_);refine aa (hK _ (wK [0, 1, 10] ?_));clear hK K;refine dI ?_ ?_<;>intro hb
 ·have hne : zf xs ys = false := decide_eq_false fun e => by subst e; simp at hb
  refine ab (dR fun K hK => ?_);(repeat refine eV ?_);refine aa (hK _ (wK [4] ?_));clear hK K;exact aj (al Tryz.results11 (.one (.plain _ _ rfl)) (by decide) (by rw [hne]))
 ·have hl : xs.length = ys.length := by simp at hb; omega
  refine af ?_;show DW _ _ _ _ _;refine ab ?_;refine ab (dR fun K hK => ?_);(repeat refine eV ?_);refine aa (hK _ (wK [0, 1, 12, 13] ?_));clear hK K;refine ah ?_;refine ax (X := Nat) (fun k => k ≤ xs.length ∧ ∀ j, j < k → gi xs j = gi ys j) (fun k => [(13, .c (.p (.int .i64 k)))]) (fun k => []) (fun k => xs.length - k) 0 ⟨Nat.zero_le _, fun j hj => by simp at hj⟩ (by first | rfl | (simp only [ac, pZ, simprocAttr, Int.natCast_zero] <;> rfl)) ?_;rintro k ⟨hk, hs⟩;intro E hE;simp only [ac, pZ, simprocAttr] at hE;subst hE;refine ab (dR fun K hK => ?_);(repeat refine eV ?_);refine aa (hK _ (wK [0, 1, 12, 13, 14] ?_));clear hK K;refine ab (dI (fun hb => ?_) (fun hb => ?_))
  ·have hkl : k < xs.length := by simpa using hb
   have hkl2 : k < ys.length := by omega
   refine af ?_;show DW _ _ _ _ _;refine ab (ah ?_);refine ab (dR fun K hK => ?_);(repeat refine eV ?_);refine aa (hK _ (wK [0, 1, 5, 12, 13] ?_));clear hK K;have dX := And.intro dX (@sameIntsSt6.eq_def);refine ab (em sameIntsSt6 (fun j r => True) fun K hK => ?_);(repeat refine dV ?_);refine a6 (hK _ (wK [0, 1, 12, 13, 24] ?_));clear hK K;refine dI ?_ ?_<;>intro hb
   ·have hne : zf xs ys = false := decide_eq_false fun e => by subst e; simp at hb
    refine ab (dR fun K hK => ?_);(repeat refine eV ?_);refine aa (hK _ (wK [4] ?_));clear hK K;exact aj (al Tryz.results11 (.one (.plain _ _ rfl)) (by decide) (by rw [hne]))
   ·have he : gi xs k = gi ys k := by simpa using hb
    refine af ?_;show DW _ _ _ _ _;refine dR fun K hK => ?_;(repeat refine eV ?_);have dK := @bu;refine aa (hK _ ?_);clear hK K;show ∃ x, _ ∧ _ ∧ Weak _ _;refine ⟨k + 1, ?_, ?_, ay [0, 1, 12, 13]⟩
    ·refine ⟨hkl, fun j hj => ?_⟩
     rcases Nat.lt_or_ge j k with h | h
     ·exact hs j h
     ·obtain rfl : j = k := by omega
      exact he
    ·omega
  ·have hkl : k = xs.length := by
    have : ¬ (k : Int) < (xs.length : Int) := by simpa using hb
    omega
   subst hkl;have hne : zf xs ys = true := La hl hs;refine ao ?_;refine wK [] ?_;refine ab (dR fun K hK => ?_);(repeat refine eV ?_);refine aa (hK _ (wK [4] ?_));clear hK K;exact aj (al Tryz.results11 (.one (.plain _ _ rfl)) (by decide) (by rw [hne]))
end
section
set_option maxHeartbeats 0
set_option maxRecDepth 8000
open Go Go.RowKit
def n6 (n : Nat) (b : Nat → Bool) : Int := match (List.range n).find? b with
 | some i => i
 | none => -1
theorem sh {n i : Nat} {b : Nat → Bool} (hi : i < n) (hb : b i = true) (hn : ∀ j, j < i → b j = false) : n6 n b = i := by
 unfold n6
 have : (List.range n).find? b = some i := by
  rw [List.find?_range_eq_some];exact ⟨hb, by simpa using hi, fun j hj => by simp [hn j hj]⟩
 rw [this]
theorem si {n : Nat} {b : Nat → Bool} (hn : ∀ j, j < n → b j = false) : n6 n b = -1 := by
 unfold n6
 have : (List.range n).find? b = none := by
  rw [List.find?_eq_none];exact fun j hj => by simp [hn j (by simpa using hj)]
 rw [this]
def zBDfn1 := PLift.up (And.intro bp (And.intro cr (And.intro @if_pos.{1} (And.intro @cl (And.intro @bw (And.intro @Int.toNat_natCast @trivial))))))
theorem B5 : type_of% zBDfn1.down := zBDfn1.down
theorem ui (o : Bool) (t : TypeId) (xs : List Int) (g : FuncId) (css : List (List C)) (b : Nat → Bool) (hl : xs.length ≤ 1000000) (hm : ak Tryz.prog g = true) (hg : ∀ j, j < xs.length → DCalls Tryz.prog g ([.c (.p (.int .i64 (gi xs j)))] ++ css.map .rp) (fun r => r = [.c (.p (.bool (b j)))])) : DCalls Tryz.prog 118 [.c (.sl o t 1 (xs.map iC)), .fn g css] (fun r => r = [.c (.p (.int .i64 (n6 xs.length b)))]) := by
 refine am Tryz.func118 rfl (by rw [Tryz.ntmps118]; simp) fun w0 => ?_;rw [Tryz.ntmps118];have dX := B5;simp only [bq, bb, Arg.av, bj, bv, ints, ends];refine ab (dR fun K hK => ?_);(repeat refine eV ?_);refine aa (hK _ (wK [0, 1] ?_));clear hK K;refine ab ?_;refine ab (dR fun K hK => ?_);(repeat refine eV ?_);refine aa (hK _ (wK [0, 1, 7, 8] ?_));clear hK K;refine ah ?_;refine ax (X := Nat) (fun k => k ≤ xs.length ∧ ∀ j, j < k → b j = false) (fun k => [(8, .c (.p (.int .i64 k)))]) (fun k => []) (fun k => xs.length - k) 0 ⟨Nat.zero_le _, fun j hj => by simp at hj⟩ (by first | rfl | (simp only [ac, pZ, simprocAttr, Int.natCast_zero] <;> rfl)) ?_;rintro k ⟨hk, hne⟩;intro E hE;simp only [ac, pZ, simprocAttr] at hE;subst hE;refine ab (dR fun K hK => ?_);(repeat refine eV ?_);refine aa (hK _ (wK [0, 1, 7, 8, 9] ?_));clear hK K;refine ab (dI (fun hb => ?_) (fun hb => ?_))
 ·have hkl : k < xs.length := by simpa using hb
  refine af ?_;show DW _ _ _ _ _;refine ab (ah ?_);refine ab (dR fun K hK => ?_);(repeat refine eV ?_);refine aa (hK _ (wK [0, 1, 5, 7, 8] ?_));clear hK K;refine ab (dR fun K hK => ?_);(repeat refine eV ?_);refine ug rfl ⟨rfl, _, rfl⟩ (by omega) (by simp (disch := first | omega | (intros; contradiction)) only [ac, bh, pZ, simprocAttr, bp, cr, if_pos, cl, bw, Int.toNat_natCast] <;> exact rfl) (by first | assumption) (by simp (disch := first | omega | (intros; contradiction)) only [ac, bh, pZ, simprocAttr, bp, cr, if_pos, cl, bw, Int.toNat_natCast] <;> exact rfl) (hg k hkl) ?_;rintro _ rfl;(repeat refine eV ?_);refine aa (hK _ (wK [0, 1, 5, 7, 8, 16] ?_));clear hK K;refine dI ?_ ?_<;>intro hb
  ·have hi : n6 xs.length b = k := sh hkl hb hne;refine ab (dR fun K hK => ?_);(repeat refine eV ?_);refine aa (hK _ (wK [4] ?_));clear hK K;exact aj (al Tryz.results118 (.one (.plain _ _ rfl)) (by decide) (by rw [hi]))
  ·refine af ?_;show DW _ _ _ _ _;refine dR fun K hK => ?_;(repeat refine eV ?_);have dK := @bu;refine aa (hK _ ?_);clear hK K;show ∃ x, _ ∧ _ ∧ Weak _ _;refine ⟨k + 1, ?_, ?_, ay [0, 1, 7, 8]⟩
   ·refine ⟨hkl, fun j hj => ?_⟩
    rcases Nat.lt_or_ge j k with h | h
    ·exact hne j h
    ·obtain rfl : j = k := by omega
     exact hb
   ·omega
 ·have hkl : k = xs.length := by
   have : ¬ (k : Int) < (xs.length : Int) := by simpa using hb
   omega
  subst hkl;have hi : n6 xs.length b = -1 := si hne;refine ao ?_;refine wK [] ?_;refine ab (dR fun K hK => ?_);(repeat refine eV ?_);refine aa (hK _ (wK [4] ?_));clear hK K;exact aj (al Tryz.results118 (.one (.plain _ _ rfl)) (by decide) (by rw [hi]))
def ta (n : Nat) (b : Nat → Bool) : Bool := (List.range n).any b
theorem Hu (n : Nat) (b : Nat → Bool) : decide ((0 : Int) ≤ n6 n b) = ta n b := by
 unfold n6 ta
 cases h : (List.range n).find? b with
 | none =>
  have : (List.range n).any b = false := by
   rw [List.any_eq_false];intro x hx;exact List.find?_eq_none.1 h x hx
  rw [this]; rfl
 | some i =>
  have : (List.range n).any b = true := List.any_eq_true.2 ⟨i, List.mem_of_find?_eq_some h, List.find?_some h⟩;rw [this]; simp
theorem ym (o : Bool) (t : TypeId) (xs : List Int) (g : FuncId) (css : List (List C)) (b : Nat → Bool) (hl : xs.length ≤ 1000000) (hm : ak Tryz.prog g = true) (hg : ∀ j, j < xs.length → DCalls Tryz.prog g ([.c (.p (.int .i64 (gi xs j)))] ++ css.map .rp) (fun r => r = [.c (.p (.bool (b j)))])) : DCalls Tryz.prog 94 [.c (.sl o t 1 (xs.map iC)), .fn g css] (fun r => r = [.c (.p (.bool (ta xs.length b)))]) := by
 refine am Tryz.func94 rfl (by rw [Tryz.ntmps94]; simp) fun w0 => ?_;rw [Tryz.ntmps94];have dX := B5;simp only [bq, bb, Arg.av, bj, bv, ints, ends];refine ab (dR fun K hK => ?_);(repeat refine eV ?_);refine aa (hK _ (wK [0, 1] ?_));clear hK K;refine ab (dR fun K hK => ?_)
 repeat (apply cm; (focus exact rfl); (focus (simp (disch := first | omega | (intros; contradiction)) only [ac, bh, pZ, simprocAttr, bp, cr, if_pos, cl, bw, Int.toNat_natCast , jd]; exact rfl)))
 refine f9 rfl ⟨rfl, _, rfl⟩ (by omega) (by first | exact jd) (by simp (disch := first | omega | (intros; contradiction)) only [ac, bh, pZ, simprocAttr, bp, cr, if_pos, cl, bw, Int.toNat_natCast , jd] <;> exact rfl) (ui o t xs g css b hl hm hg) ?_;rintro _ rfl
 repeat (apply cm; (focus exact rfl); (focus (simp (disch := first | omega | (intros; contradiction)) only [ac, bh, pZ, simprocAttr, bp, cr, if_pos, cl, bw, Int.toNat_natCast , jd]; exact rfl)))
 refine aa (hK _ (wK [4] ?_));clear hK K;exact aj (al Tryz.results94 (.one (.plain _ _ rfl)) (by decide) (by rw [← Hu]))
theorem Nk (xs : List Int) (p : Int → Bool) : (!(ta xs.length fun j => !(p (gi xs j)))) = xs.all p := by
 rw [ta, ← List.not_all_eq_any_not, Bool.not_not, Bool.eq_iff_iff, List.all_eq_true, List.all_eq_true];constructor
 ·intro h x hx;obtain ⟨i, hi, rfl⟩ := List.getElem_of_mem hx;have := h i (by simpa using hi);rwa [cw hi] at this
 ·intro h j hj;have hj : j < xs.length := by simpa using hj
  rw [cw hj];exact h _ (List.getElem_mem hj)
theorem vm (n lo hi : Int) : DCalls Tryz.prog 92 [.c (.p (.int .i64 n)), .c (.p (.int .i64 lo)), .c (.p (.int .i64 hi))] (fun r => r = [.c (.p (.bool (inB n lo hi)))]) := jj fun w vs h1 h2 => by
 obtain ⟨u, v, t, rfl, g1, g2, g3⟩ := Nh h1 h2;rw [uu g1, uu g2, uu g3];exact (cq n lo hi w).mono fun _ _ h => RetQ.v h
theorem Cf (n lo hi : Int) : DCalls Tryz.prog 158 [.c (.p (.int .i64 n)), .rp [.p (.int .i64 lo)], .rp [.p (.int .i64 hi)]] (fun r => r = [.c (.p (.bool !(inB n lo hi)))]) := by
 refine am Tryz.func158 rfl (by rw [Tryz.ntmps158]; simp) fun w0 => ?_;rw [Tryz.ntmps158];have dX := B5;simp only [bq, bb, Arg.av, bj, bv, ints, ends];refine ab (dR fun K hK => ?_);(repeat refine eV ?_);refine aa (hK _ (wK [0, 1, 2] ?_));clear hK K;refine ab (dR fun K hK => ?_);(repeat refine eV ?_);refine cL rfl ⟨rfl, _, rfl⟩ (by omega) (by first | exact w9) (vm n lo hi) ?_;rintro _ rfl;(repeat refine eV ?_);refine aa (hK _ (wK [4] ?_));clear hK K;exact aj (al Tryz.results158 (.one (.plain _ _ rfl)) (by decide) rfl)
theorem my (o : Bool) (t : TypeId) (xs : List Int) (lo hi : Int) (hl : xs.length ≤ 1000000) : DCalls Tryz.prog 74 [.c (.sl o t 1 (xs.map iC)), .c (.p (.int .i64 lo)), .c (.p (.int .i64 hi))] (fun r => r = [.c (.p (.bool (xs.all fun n => inB n lo hi)))]) := by
 refine am Tryz.func74 rfl (by rw [Tryz.ntmps74]; simp) fun w0 => ?_;rw [Tryz.ntmps74];have dX := B5;simp only [bq, bb, Arg.av, bj, bv, ints, ends];refine ab (dR fun K hK => ?_);(repeat refine eV ?_);refine aa (hK _ (wK [0, 4, 5] ?_));clear hK K;refine ab (dR fun K hK => ?_)
 repeat (apply cm; (focus exact rfl); (focus (simp (disch := first | omega | (intros; contradiction)) only [ac, bh, pZ, simprocAttr, bp, cr, if_pos, cl, bw, Int.toNat_natCast , Hp]; exact rfl)))
 refine f9 rfl ⟨rfl, _, rfl⟩ (by omega) (by first | exact Hp) (by simp (disch := first | omega | (intros; contradiction)) only [ac, bh, pZ, simprocAttr, bp, cr, if_pos, cl, bw, Int.toNat_natCast , Hp] <;> exact rfl) (ym o t xs 158 [[.p (.int .i64 lo)], [.p (.int .i64 hi)]] (fun j => !(inB (gi xs j) lo hi)) hl (by exact Re) fun j hj => Cf _ lo hi) ?_;rintro _ rfl
 repeat (apply cm; (focus exact rfl); (focus (simp (disch := first | omega | (intros; contradiction)) only [ac, bh, pZ, simprocAttr, bp, cr, if_pos, cl, bw, Int.toNat_natCast , Hp]; exact rfl)))
 refine aa (hK _ (wK [6] ?_));clear hK K;exact aj (al Tryz.results74 (.one (.plain _ _ rfl)) (by decide) (congrArg (fun b => [RV.c (C.p (.bool b))]) (Nk xs fun n => inB n lo hi)))
end
end Go.Proofs.YtolpiolnhgpjjaaGreat

/- Parts of the proof. -/
import Derived.Test.YtolpiolnhgpjjaaGreatCDbf
import Derived.Test.YtolpiolnhgpjjaaGreatCJn9
import Derived.Test.YtolpiolnhgpjjaaGreatCDpg
set_option linter.unusedSimpArgs false
set_option linter.unusedVariables false
namespace Go.Proofs.YtolpiolnhgpjjaaGreat
section
set_option maxHeartbeats 0
set_option maxRecDepth 8000
open Go Go.RowKit
def th (xs : List Int) (x : Int) : Int := oa xs.length fun j => gi xs j == x
def zBDix1 := PLift.up (And.intro ap (And.intro bc (And.intro b9 (And.intro bg (And.intro ay (And.intro @if_pos.{1} (And.intro @b6 (And.intro ca (And.intro @dt (And.intro @dr (And.intro @bq (And.intro @ba (And.intro @a8 @trivial)))))))))))))
theorem Qf : type_of% zBDix1.down := zBDix1.down
theorem Ti (o : Bool) (t : TypeId) (xs : List Int) (x : Int) (hl : xs.length ≤ 1000000) : DCalls Tryz.prog 153 [.c (.sl o t 1 (xs.map iC)), .c (.p (.int .i64 x))] (fun r => r = [.c (.p (.int .i64 (th xs x)))]) := by
 refine am Tryz.func153 rfl (by rw [Tryz.ntmps153]; simp) fun w0 => ?_;rw [Tryz.ntmps153];have dX := Qf;simp only [b4, bd, Arg.av, bi, b7, ints, ends];refine ab (dR fun K hK => ?_);(repeat refine eV ?_);refine aa (hK _ (wK [0, 1] ?_));clear hK K;refine ab ?_;refine ab (dR fun K hK => ?_);(repeat refine eV ?_);refine aa (hK _ (wK [0, 1, 7, 8] ?_));clear hK K;refine ae ?_;refine au (X := Nat) (fun k => k ≤ xs.length ∧ ∀ j, j < k → (gi xs j == x) = false) (fun k => [(8, .c (.p (.int .i64 k)))]) (fun k => []) (fun k => xs.length - k) 0 ⟨Nat.zero_le _, fun j hj => by simp at hj⟩ (by first | rfl | (simp only [ac, pZ, simprocAttr, Int.natCast_zero] <;> rfl)) ?_;rintro k ⟨hk, hne⟩;intro E hE;simp only [ac, pZ, simprocAttr] at hE;subst hE;refine ab (dR fun K hK => ?_);(repeat refine eV ?_);refine aa (hK _ (wK [0, 1, 7, 8, 9] ?_));clear hK K;refine ab (dI (fun hb => ?_) (fun hb => ?_))
 ·have hkl : k < xs.length := by simpa using hb
  refine af ?_;show DW _ _ _ _ _;refine ab (ae ?_);refine ab (dR fun K hK => ?_);(repeat refine eV ?_);refine aa (hK _ (wK [0, 1, 5, 7, 8] ?_));clear hK K;refine ab (dR fun K hK => ?_);(repeat refine eV ?_);refine aa (hK _ (wK [0, 1, 5, 7, 8, 16] ?_));clear hK K;refine dI ?_ ?_<;>intro hb
  ·have he : gi xs k = x := Eq.symm (by simpa using hb);have hi : th xs x = k := uw hkl (by simpa using he) hne;refine ab (dR fun K hK => ?_);(repeat refine eV ?_);refine aa (hK _ (wK [4] ?_));clear hK K;exact ak (an Tryz.results153 (.one (.plain _ _ rfl)) (by decide) (by rw [hi]))
  ·have he : (gi xs k == x) = false := by
    have : x ≠ gi xs k := by simpa using hb
    simpa using fun h => this h.symm
   refine af ?_;show DW _ _ _ _ _;refine dR fun K hK => ?_;(repeat refine eV ?_);have dK := @bt;refine aa (hK _ ?_);clear hK K;show ∃ x, _ ∧ _ ∧ Weak _ _;refine ⟨k + 1, ?_, ?_, aq [0, 1, 7, 8]⟩
   ·refine ⟨hkl, fun j hj => ?_⟩
    rcases Nat.lt_or_ge j k with h | h
    ·exact hne j h
    ·obtain rfl : j = k := by omega
     exact he
   ·omega
 ·have hkl : k = xs.length := by
   have : ¬ (k : Int) < (xs.length : Int) := by simpa using hb
   omega
  subst hkl;have hi : th xs x = -1 := ux hne;refine ao ?_;refine wK [] ?_;refine ab (dR fun K hK => ?_);(repeat refine eV ?_);refine aa (hK _ (wK [4] ?_));clear hK K;exact ak (an Tryz.results153 (.one (.plain _ _ rfl)) (by decide) (by rw [hi]))
theorem mr (o : Bool) (t : TypeId) (xs : List Int) (x : Int) (hl : xs.length ≤ 1000000) : DCalls Tryz.prog 66 [.c (.sl o t 1 (xs.map iC)), .c (.p (.int .i64 x))] (fun r => r = [.c (.p (.bool (decide (0 ≤ th xs x))))]) := by
 refine am Tryz.func66 rfl (by rw [Tryz.ntmps66]; simp) fun w0 => ?_;rw [Tryz.ntmps66];have dX := Qf;simp only [b4, bd, Arg.av, bi, b7, ints, ends];refine ab (dR fun K hK => ?_);(repeat refine eV ?_);refine aa (hK _ (wK [0, 1] ?_));clear hK K;refine ab (dR fun K hK => ?_)
 repeat (apply bz; (focus exact rfl); (focus (simp (disch := first | omega | (intros; contradiction)) only [ac, bl, pZ, simprocAttr, ap, bc, b9, bg, ay, if_pos, b6, ca, dt, dr, bq, ba, a8 , Db]; exact rfl)))
 refine du rfl ⟨rfl, _, rfl⟩ (by omega) (by first | exact Db) (by simp (disch := first | omega | (intros; contradiction)) only [ac, bl, pZ, simprocAttr, ap, bc, b9, bg, ay, if_pos, b6, ca, dt, dr, bq, ba, a8 , Db] <;> exact rfl) (Ti o t xs x hl) ?_;rintro _ rfl
 repeat (apply bz; (focus exact rfl); (focus (simp (disch := first | omega | (intros; contradiction)) only [ac, bl, pZ, simprocAttr, ap, bc, b9, bg, ay, if_pos, b6, ca, dt, dr, bq, ba, a8 , Db]; exact rfl)))
 refine aa (hK _ (wK [4] ?_));clear hK K;exact ak (an Tryz.results66 (.one (.plain _ _ rfl)) (by decide) rfl)
end
section
open Go Go.RowKit
theorem Xj {N : Net} {v : Nat} (hg : bj N = true) (hv : v < N.ends.length) : Tt N v = true := by
 unfold Tt;rw [hg, ce.2 (by omega)]; rfl
def zBDwd1 := PLift.up (And.intro ap (And.intro bc (And.intro b9 (And.intro bg (And.intro ay (And.intro @if_pos.{1} (And.intro @b6 (And.intro ca (And.intro @dt (And.intro @dr (And.intro @bq (And.intro @ba (And.intro @a8 @trivial)))))))))))))
theorem Vp : type_of% zBDwd1.down := zBDwd1.down
set_option maxRecDepth 8000 in
set_option maxHeartbeats 0 in
theorem w6 (f : NF) (N : Net) (v : Nat) (hg : bj N = true) (hv : v < N.ends.length) : DCalls Tryz.prog 26 [.agg (bi f N), .c (.p (.int .i64 v))] (fun r => r = [.own false [.sl true 3 1 ((bo N v).map iC)], .c (.p (.bool true))]) := by
 have hs : Sym N.ends := (zl hg).sym;have hn := zk hg;have hids : N.ids.length ≤ 2097152 := by have := Fu hg; omega
 have hin : inB (v : Int) 0 ((N.ends.length : Int) - 1) = true := ce.2 (by omega)
 have hdg : ∀ a, (gl N.ends a).length ≤ 1000 := fun a => by
  rcases Nat.lt_or_ge a N.ends.length with h | h
  ·have := Fv hg h; omega
  ·have : gl N.ends a = [] := by unfold gl; rw [List.getD_eq_getElem?_getD, List.getElem?_eq_none h]; rfl
   rw [this]; simp
 refine am Tryz.func26 rfl (by rw [Tryz.ntmps26]; simp) fun w0 => ?_;rw [Tryz.ntmps26];have dX := Vp;simp only [b4, bd, Arg.av, bi, b7, ints, ends];refine ab (dR fun K hK => ?_);(repeat refine eV ?_);refine aa (hK _ (wK [1, 2] ?_));clear hK K;refine ab ?_;refine ab (dR fun K hK => ?_);(repeat refine eV ?_);refine cL rfl ⟨rfl, _, rfl⟩ (by omega) (by first | exact mt | exact Pw) (ez ⟨false, f.t1, f.o2, f.t2, false, f.t3, false, f.t4⟩ N hids) ?_;rintro _ rfl;(repeat refine eV ?_);have dX := And.intro dX (@hg);(repeat refine eV ?_);refine cgF rfl rfl ⟨rfl, _, rfl⟩ (by omega) (by first | exact mt | exact Pw) (Mm ⟨false, f.t1, f.o2, f.t2, false, f.t3, false, f.t4⟩ N v (by omega)) ?_;rintro _ rfl;(repeat refine eV ?_);have dX := And.intro dX (@hin);(repeat refine eV ?_);have dK := And.intro @hin @hg;refine aa (hK _ (ax [1, 2, 14] ?_));clear hK K;refine dI ?_ ?_<;>intro hb
 ·cases hb
 ·refine af ?_;show DW _ _ _ _ _;refine ab (dR fun K hK => ?_);(repeat refine eV ?_);refine cL rfl ⟨rfl, _, rfl⟩ (by omega) (by first | exact Pv) (mw ⟨false, f.t1, f.o2, f.t2, false, f.t3, false, f.t4⟩ N v hs hv (by omega) hdg) ?_;rintro _ rfl;(repeat refine eV ?_);refine aa (hK _ (wK [4, 5] ?_));clear hK K;exact ak (an Tryz.results26 (.two (.own _ _ _ _ rfl rfl (own1 (az _ _))) (.plain _ _ rfl)) (by decide) rfl)
end
end Go.Proofs.YtolpiolnhgpjjaaGreat

/- slices.Index, slices.Contains, impl.isConnected over data -/
import Derived.Test.YtolpiolnhgpjjaaGreatCDbf
import Derived.Test.YtolpiolnhgpjjaaGreatCJn8
import Derived.Test.YtolpiolnhgpjjaaGreatCDpg
set_option linter.unusedSimpArgs false
set_option linter.unusedVariables false
namespace Go.Proofs.YtolpiolnhgpjjaaGreat
set_option maxHeartbeats 0
set_option maxRecDepth 8000
open Go Go.RowKit
def je (xs : List Int) (x : Int) : Int := me xs.length fun j => gi xs j == x
def zBDix1 := PLift.up (And.intro ap (And.intro bh (And.intro ce (And.intro bl (And.intro az (And.intro @if_pos.{1} (And.intro @b7 (And.intro be (And.intro @dm (And.intro @dl (And.intro @bz (And.intro @bq (And.intro @bt @trivial)))))))))))))
theorem Pa : type_of% zBDix1.down := zBDix1.down
theorem Sh (o : Bool) (t : TypeId) (xs : List Int) (x : Int) (hl : xs.length ≤ 1000000) : DCalls Tryz.prog 153 [.c (.sl o t 1 (xs.map iC)), .c (.p (.int .i64 x))] (fun r => r = [.c (.p (.int .i64 (je xs x)))]) := by
 refine ao Tryz.func153 rfl (by rw [Tryz.ntmps153]; simp) fun w0 => ?_;rw [Tryz.ntmps153];have dX := Pa;simp only [b4, bc, Arg.av, bw, b8, ints, ends];refine ab (dR fun K hK => ?_);(repeat refine eV ?_);refine aa (hK _ (wK [0, 1] ?_));clear hK K;refine ab ?_;refine ab (dR fun K hK => ?_);(repeat refine eV ?_);refine aa (hK _ (wK [0, 1, 7, 8] ?_));clear hK K;refine ae ?_;refine ax (X := Nat) (fun k => k ≤ xs.length ∧ ∀ j, j < k → (gi xs j == x) = false) (fun k => [(8, .c (.p (.int .i64 k)))]) (fun k => []) (fun k => xs.length - k) 0 ⟨Nat.zero_le _, fun j hj => by simp at hj⟩ (by first | rfl | (simp only [ac, pZ, simprocAttr, Int.natCast_zero] <;> rfl)) ?_;rintro k ⟨hk, hne⟩;intro E hE;simp only [ac, pZ, simprocAttr] at hE;subst hE;refine ab (dR fun K hK => ?_);(repeat refine eV ?_);refine aa (hK _ (wK [0, 1, 7, 8, 9] ?_));clear hK K;refine ab (dI (fun hb => ?_) (fun hb => ?_))
 ·have hkl : k < xs.length := by simpa using hb
  refine af ?_;show DW _ _ _ _ _;refine ab (ae ?_);refine ab (dR fun K hK => ?_);(repeat refine eV ?_);refine aa (hK _ (wK [0, 1, 5, 7, 8] ?_));clear hK K;refine ab (dR fun K hK => ?_);(repeat refine eV ?_);refine aa (hK _ (wK [0, 1, 5, 7, 8, 16] ?_));clear hK K;refine dI ?_ ?_<;>intro hb
  ·have he : gi xs k = x := Eq.symm (by simpa using hb);have hi : je xs x = k := jj hkl (by simpa using he) hne;refine ab (dR fun K hK => ?_);(repeat refine eV ?_);refine aa (hK _ (wK [4] ?_));clear hK K;exact ak (aq Tryz.results153 (.one (.plain _ _ rfl)) (by decide) (by rw [hi]))
  ·have he : (gi xs k == x) = false := by
    have : x ≠ gi xs k := by simpa using hb
    simpa using fun h => this h.symm
   refine af ?_;show DW _ _ _ _ _;refine dR fun K hK => ?_;(repeat refine eV ?_);have dK := @bi;refine aa (hK _ ?_);clear hK K;show ∃ x, _ ∧ _ ∧ Weak _ _;refine ⟨k + 1, ?_, ?_, an [0, 1, 7, 8]⟩
   ·refine ⟨hkl, fun j hj => ?_⟩
    rcases Nat.lt_or_ge j k with h | h
    ·exact hne j h
    ·obtain rfl : j = k := by omega
     exact he
   ·omega
 ·have hkl : k = xs.length := by
   have : ¬ (k : Int) < (xs.length : Int) := by simpa using hb
   omega
  subst hkl;have hi : je xs x = -1 := ls hne;refine am ?_;refine wK [] ?_;refine ab (dR fun K hK => ?_);(repeat refine eV ?_);refine aa (hK _ (wK [4] ?_));clear hK K;exact ak (aq Tryz.results153 (.one (.plain _ _ rfl)) (by decide) (by rw [hi]))
theorem zi (o : Bool) (t : TypeId) (xs : List Int) (x : Int) (hl : xs.length ≤ 1000000) : DCalls Tryz.prog 66 [.c (.sl o t 1 (xs.map iC)), .c (.p (.int .i64 x))] (fun r => r = [.c (.p (.bool (decide (0 ≤ je xs x))))]) := by
 refine ao Tryz.func66 rfl (by rw [Tryz.ntmps66]; simp) fun w0 => ?_;rw [Tryz.ntmps66];have dX := Pa;simp only [b4, bc, Arg.av, bw, b8, ints, ends];refine ab (dR fun K hK => ?_);(repeat refine eV ?_);refine aa (hK _ (wK [0, 1] ?_));clear hK K;refine ab (dR fun K hK => ?_)
 repeat (apply dr; (focus exact rfl); (focus (simp (disch := first | omega | (intros; contradiction)) only [ac, bj, pZ, simprocAttr, ap, bh, ce, bl, az, if_pos, b7, be, dm, dl, bz, bq, bt , Cj]; exact rfl)))
 refine gn rfl ⟨rfl, _, rfl⟩ (by omega) (by first | exact Cj) (by simp (disch := first | omega | (intros; contradiction)) only [ac, bj, pZ, simprocAttr, ap, bh, ce, bl, az, if_pos, b7, be, dm, dl, bz, bq, bt , Cj] <;> exact rfl) (Sh o t xs x hl) ?_;rintro _ rfl
 repeat (apply dr; (focus exact rfl); (focus (simp (disch := first | omega | (intros; contradiction)) only [ac, bj, pZ, simprocAttr, ap, bh, ce, bl, az, if_pos, b7, be, dm, dl, bz, bq, bt , Cj]; exact rfl)))
 refine aa (hK _ (wK [4] ?_));clear hK K;exact ak (aq Tryz.results66 (.one (.plain _ _ rfl)) (by decide) rfl)
end Go.Proofs.YtolpiolnhgpjjaaGreat

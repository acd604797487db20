/- slices.Index, slices.Contains, impl.isConnected over data -/
import Derived.Test.YtolpiolnhgpjjaaGreatCDbf
import Derived.Test.YtolpiolnhgpjjaaGreatCJn9
import Derived.Test.YtolpiolnhgpjjaaGreatCDpg
set_option linter.unusedSimpArgs false
set_option linter.unusedVariables false
namespace Go.Proofs.YtolpiolnhgpjjaaGreat
set_option maxHeartbeats 0
set_option maxRecDepth 8000
open Go Go.RowKit
def zr (xs : List Int) (x : Int) : Int := F0 xs.length fun j => gi xs j == x
def zBDix1 := PLift.up (And.intro an (And.intro aq (And.intro bh (And.intro a6 (And.intro am (And.intro @if_pos.{1} (And.intro @be (And.intro aw (And.intro @bg (And.intro @bf (And.intro @ax (And.intro @ao (And.intro @ap @trivial)))))))))))))
theorem Sd : type_of% zBDix1.down := zBDix1.down
theorem Us (o : Bool) (t : TypeId) (xs : List Int) (x : Int) (hl : xs.length ≤ 1000000) : DCalls Tryz.prog 153 [.c (.sl o t 1 (xs.map iC)), .c (.p (.int .i64 x))] (fun r => r = [.c (.p (.int .i64 (zr xs x)))]) := by
 refine au Tryz.func153 rfl (by rw [Tryz.ntmps153]; simp) fun w0 => ?_;rw [Tryz.ntmps153];have dX := Sd;simp only [ce, bm, Arg.av, bw, cm, ints, ends];refine ab (dR fun K hK => ?_);(repeat refine eV ?_);refine aa (hK _ (wK [0, 1] ?_));clear hK K;refine ab ?_;refine ab (dR fun K hK => ?_);(repeat refine eV ?_);refine aa (hK _ (wK [0, 1, 7, 8] ?_));clear hK K;refine af ?_;refine ba (X := Nat) (fun k => k ≤ xs.length ∧ ∀ j, j < k → (gi xs j == x) = false) (fun k => [(8, .c (.p (.int .i64 k)))]) (fun k => []) (fun k => xs.length - k) 0 ⟨Nat.zero_le _, fun j hj => by simp at hj⟩ (by first | rfl | (simp only [ac, pZ, simprocAttr, Int.natCast_zero] <;> rfl)) ?_;rintro k ⟨hk, hne⟩;intro E hE;simp only [ac, pZ, simprocAttr] at hE;subst hE;refine ab (dR fun K hK => ?_);(repeat refine eV ?_);refine aa (hK _ (wK [0, 1, 7, 8, 9] ?_));clear hK K;refine ab (dI (fun hb => ?_) (fun hb => ?_))
 ·have hkl : k < xs.length := by simpa using hb
  refine ae ?_;show DW _ _ _ _ _;refine ab (af ?_);refine ab (dR fun K hK => ?_);(repeat refine eV ?_);refine aa (hK _ (wK [0, 1, 5, 7, 8] ?_));clear hK K;refine ab (dR fun K hK => ?_);(repeat refine eV ?_);refine aa (hK _ (wK [0, 1, 5, 7, 8, 16] ?_));clear hK K;refine dI ?_ ?_<;>intro hb
  ·have he : gi xs k = x := Eq.symm (by simpa using hb);have hi : zr xs x = k := O7 hkl (by simpa using he) hne;refine ab (dR fun K hK => ?_);(repeat refine eV ?_);refine aa (hK _ (wK [4] ?_));clear hK K;exact aj (al Tryz.results153 (.one (.plain _ _ rfl)) (by decide) (by rw [hi]))
  ·have he : (gi xs k == x) = false := by
    have : x ≠ gi xs k := by simpa using hb
    simpa using fun h => this h.symm
   refine ae ?_;show DW _ _ _ _ _;refine dR fun K hK => ?_;(repeat refine eV ?_);have dK := @bq;refine aa (hK _ ?_);clear hK K;show ∃ x, _ ∧ _ ∧ Weak _ _;refine ⟨k + 1, ?_, ?_, a7 [0, 1, 7, 8]⟩
   ·refine ⟨hkl, fun j hj => ?_⟩
    rcases Nat.lt_or_ge j k with h | h
    ·exact hne j h
    ·obtain rfl : j = k := by omega
     exact he
   ·omega
 ·have hkl : k = xs.length := by
   have : ¬ (k : Int) < (xs.length : Int) := by simpa using hb
   omega
  subst hkl;have hi : zr xs x = -1 := O8 hne;refine ay ?_;refine wK [] ?_;refine ab (dR fun K hK => ?_);(repeat refine eV ?_);refine aa (hK _ (wK [4] ?_));clear hK K;exact aj (al Tryz.results153 (.one (.plain _ _ rfl)) (by decide) (by rw [hi]))
theorem jg (o : Bool) (t : TypeId) (xs : List Int) (x : Int) (hl : xs.length ≤ 1000000) : DCalls Tryz.prog 66 [.c (.sl o t 1 (xs.map iC)), .c (.p (.int .i64 x))] (fun r => r = [.c (.p (.bool (decide (0 ≤ zr xs x))))]) := by
 refine au Tryz.func66 rfl (by rw [Tryz.ntmps66]; simp) fun w0 => ?_;rw [Tryz.ntmps66];have dX := Sd;simp only [ce, bm, Arg.av, bw, cm, ints, ends];refine ab (dR fun K hK => ?_);(repeat refine eV ?_);refine aa (hK _ (wK [0, 1] ?_));clear hK K;refine ab (dR fun K hK => ?_)
 repeat (apply bj; (focus exact rfl); (focus (simp (disch := first | omega | (intros; contradiction)) only [ac, az, pZ, simprocAttr, an, aq, bh, a6, am, if_pos, be, aw, bg, bf, ax, ao, ap , Fp]; exact rfl)))
 refine cu rfl ⟨rfl, _, rfl⟩ (by omega) (by first | exact Fp) (by simp (disch := first | omega | (intros; contradiction)) only [ac, az, pZ, simprocAttr, an, aq, bh, a6, am, if_pos, be, aw, bg, bf, ax, ao, ap , Fp] <;> exact rfl) (Us o t xs x hl) ?_;rintro _ rfl
 repeat (apply bj; (focus exact rfl); (focus (simp (disch := first | omega | (intros; contradiction)) only [ac, az, pZ, simprocAttr, an, aq, bh, a6, am, if_pos, be, aw, bg, bf, ax, ao, ap , Fp]; exact rfl)))
 refine aa (hK _ (wK [4] ?_));clear hK K;exact aj (al Tryz.results66 (.one (.plain _ _ rfl)) (by decide) rfl)
end Go.Proofs.YtolpiolnhgpjjaaGreat

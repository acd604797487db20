/- Parts of the proof, joined: Dix, Dwd. -/
import Derived.Test.YtdiiggpohcjppaaGreatCDbf
import Derived.Test.YtdiiggpohcjppaaGreatCJn8
import Derived.Test.YtdiiggpohcjppaaGreatCDpg
set_option linter.unusedSimpArgs false
set_option linter.unusedVariables false
namespace Go.Proofs.YtdiiggpohcjppaaGreat
section
set_option maxHeartbeats 0
set_option maxRecDepth 8000
open Go Go.RowKit
def sx (xs : List Int) (x : Int) : Int := Cl xs.length fun j => gi xs j == x
def zBDix1 := PLift.up (And.intro an (And.intro bb (And.intro cl (And.intro bm (And.intro bj (And.intro @if_pos.{1} (And.intro @b7 (And.intro bn (And.intro @b4 (And.intro @b0 (And.intro @br (And.intro @a7 (And.intro @a6 @trivial)))))))))))))
theorem Sd : type_of% zBDix1.down := zBDix1.down
theorem Mu (o : Bool) (t : TypeId) (xs : List Int) (x : Int) (hl : xs.length ≤ 1000000) : DCalls Tryz.prog 78 [.c (.sl o t 1 (xs.map iC)), .c (.p (.int .i64 x))] (fun r => r = [.c (.p (.int .i64 (sx xs x)))]) := by -- params []int, int
 refine ao Tryz.func78 rfl (by rw [Tryz.ntmps78]; simp) fun w0 => ?_
 rw [Tryz.ntmps78]
 have dfx := Sd
 simp only [ce, be, Arg.av, bv, cm, ints, ends]
 refine ab (dwR fun K hK => ?_)
 repeat refine evF ?_
 refine aa (hK _ (dwK [0, 1] ?_))
 clear hK K
 refine ab ?_
 refine ab (dwR fun K hK => ?_)
 repeat refine evF ?_
 refine aa (hK _ (dwK [0, 1, 7, 8] ?_))
 clear hK K
 refine ae ?_
 refine ax (X := Nat) (fun k => k ≤ xs.length ∧ ∀ j, j < k → (gi xs j == x) = false) (fun k => [(8, .c (.p (.int .i64 k)))]) (fun k => []) (fun k => xs.length - k) 0 ⟨Nat.zero_le _, fun j hj => by simp at hj⟩ (by first | rfl | (simp only [ac, C.at, C.put, List.dropLast, List.isPrefixOf, simprocAttr, Int.natCast_zero] <;> rfl)) ?_
 rintro k ⟨hk, hne⟩
 intro E hE
 simp only [ac, C.at, C.put, List.dropLast, List.isPrefixOf, simprocAttr] at hE
 subst hE
 refine ab (dwR fun K hK => ?_)
 repeat refine evF ?_
 refine aa (hK _ (dwK [0, 1, 7, 8, 9] ?_))
 clear hK K
 refine ab (dwI (fun hb => ?_) (fun hb => ?_))
 ·have hkl : k < xs.length := by simpa using hb
  refine ai ?_
  show DW _ _ _ _ _
  refine ab (ae ?_)
  refine ab (dwR fun K hK => ?_)
  repeat refine evF ?_
  refine aa (hK _ (dwK [0, 1, 5, 7, 8] ?_))
  clear hK K
  refine ab (dwR fun K hK => ?_)
  repeat refine evF ?_
  refine aa (hK _ (dwK [0, 1, 5, 7, 8, 16] ?_))
  clear hK K
  refine dwI (fun hb => ?_) (fun hb => ?_)
  ·have he : gi xs k = x := Eq.symm (by simpa using hb)
   have hi : sx xs x = k := Oy hkl (by simpa using he) hne
   refine ab (dwR fun K hK => ?_)
   repeat refine evF ?_
   refine aa (hK _ (dwK [4] ?_))
   clear hK K
   exact ak (aq Tryz.results78 (.one (.plain _ _ rfl)) (by decide) (by rw [hi]))
  ·have he : (gi xs k == x) = false := by
    have : x ≠ gi xs k := by simpa using hb
    simpa using fun h => this h.symm
   refine ai ?_
   show DW _ _ _ _ _
   refine dwR fun K hK => ?_
   repeat refine evF ?_
   have dfk := @cd
   refine aa (hK _ ?_)
   clear hK K
   show ∃ x, _ ∧ _ ∧ Weak _ _
   refine ⟨k + 1, ?_, ?_, ay [0, 1, 7, 8]⟩
   ·refine ⟨hkl, fun j hj => ?_⟩
    rcases Nat.lt_or_ge j k with h | h
    ·exact hne j h
    ·obtain rfl : j = k := by omega
     exact he
   ·omega
 ·have hkl : k = xs.length := by
   have : ¬ (k : Int) < (xs.length : Int) := by simpa using hb
   omega
  subst hkl
  have hi : sx xs x = -1 := Oz hne
  refine ap ?_
  refine dwK [] ?_
  refine ab (dwR fun K hK => ?_)
  repeat refine evF ?_
  refine aa (hK _ (dwK [4] ?_))
  clear hK K
  exact ak (aq Tryz.results78 (.one (.plain _ _ rfl)) (by decide) (by rw [hi]))
theorem B8 (o : Bool) (t : TypeId) (xs : List Int) (x : Int) (hl : xs.length ≤ 1000000) : DCalls Tryz.prog 121 [.c (.sl o t 1 (xs.map iC)), .c (.p (.int .i64 x))] (fun r => r = [.c (.p (.bool (decide (0 ≤ sx xs x))))]) := by -- params []int, int
 refine ao Tryz.func121 rfl (by rw [Tryz.ntmps121]; simp) fun w0 => ?_
 rw [Tryz.ntmps121]
 have dfx := Sd
 simp only [ce, be, Arg.av, bv, cm, ints, ends]
 refine ab (dwR fun K hK => ?_)
 repeat refine evF ?_
 refine aa (hK _ (dwK [0, 1] ?_))
 clear hK K
 refine ab (dwR fun K hK => ?_)
 repeat (apply cg; (focus exact rfl); (focus (simp (disch := first | omega | (intros; contradiction)) only [ac, bd, C.at, C.put, List.dropLast, List.isPrefixOf, simprocAttr, an, bb, cl, bm, bj, if_pos, b7, bn, b4, b0, br, a7, a6 , mr]; exact rfl)))
 refine ee rfl ⟨rfl, _, rfl⟩ (by omega) (by first | exact mr) (by simp (disch := first | omega | (intros; contradiction)) only [ac, bd, C.at, C.put, List.dropLast, List.isPrefixOf, simprocAttr, an, bb, cl, bm, bj, if_pos, b7, bn, b4, b0, br, a7, a6 , mr] <;> exact rfl) (Mu o t xs x hl) ?_
 rintro _ rfl
 repeat (apply cg; (focus exact rfl); (focus (simp (disch := first | omega | (intros; contradiction)) only [ac, bd, C.at, C.put, List.dropLast, List.isPrefixOf, simprocAttr, an, bb, cl, bm, bj, if_pos, b7, bn, b4, b0, br, a7, a6 , mr]; exact rfl)))
 refine aa (hK _ (dwK [4] ?_))
 clear hK K
 exact ak (aq Tryz.results121 (.one (.plain _ _ rfl)) (by decide) rfl)
end
section
open Go Go.RowKit
end
end Go.Proofs.YtdiiggpohcjppaaGreat

/- Parts of the proof. -/
import Derived.Test.YtolpiolnhgpjjaaGreatCDbf
import Derived.Test.YtolpiolnhgpjjaaGreatCWvs
import Derived.Test.YtolpiolnhgpjjaaGreatCDpg
import Derived.Test.YtolpiolnhgpjjaaGreatCDcv
import Derived.Test.YtolpiolnhgpjjaaGreatCJn22
set_option linter.unusedSimpArgs false
set_option linter.unusedVariables false
namespace Go.Proofs.YtolpiolnhgpjjaaGreat
section
open Go Go.RowKit
theorem mmF {a b : Int} : (if false = true then max a b else min a b) = min a b := if_neg (by simp)
end
section
open Go Go.RowKit
theorem Rh {n j : Nat} {x : Int} (h : j < n) : gi (List.replicate n x) j = x := by simp [gi, h]
def zBDws1 := PLift.up (And.intro ap (And.intro bh (And.intro ce (And.intro bl (And.intro az (And.intro @if_pos.{1} (And.intro @b7 (And.intro be (And.intro @dm (And.intro @dl (And.intro @bq (And.intro @bt @trivial))))))))))))
theorem Up : type_of% zBDws1.down := zBDws1.down
set_option maxRecDepth 8000 in
set_option maxHeartbeats 0 in
theorem M0 (n : Nat) (hn : n ≤ 1000) : DCalls Tryz.prog 221 [.c (.p (.int .i64 n))] (fun r => r = [.own false [.sl true 3 1 ((List.replicate n (-1)).map iC)]]) := by
 refine ao Tryz.func221 rfl (by rw [Tryz.ntmps221]; simp) fun w0 => ?_;rw [Tryz.ntmps221];have dX := Up;simp only [b4, bc, Arg.av, bw, b8, ints, ends];refine ab (dR fun K hK => ?_);(repeat refine eV ?_);refine aa (hK _ (wK [0] ?_));clear hK K;refine ab (dR fun K hK => ?_);(repeat refine eV ?_);have dK := @Ia;refine aa (hK _ (ay [3] ?_));clear hK K;refine ab ?_;refine ab (dR fun K hK => ?_);(repeat refine eV ?_);refine aa (hK _ (wK [3, 8, 9] ?_));clear hK K;refine ae ?_;refine ax (X := Nat) (fun x => x ≤ n) (fun x => [(9, .c (.p (.int .i64 x)))]) (fun x => [((3, 0), ⟨none, [.sl true 3 1 ((G1 n (List.replicate n (-1)) (List.replicate n 0) x).map iC)]⟩)]) (fun x => n - x) 0 (Nat.zero_le _) (by first | rfl | (simp only [ac, pZ, simprocAttr, Int.natCast_zero, Kw (n := n) (a := List.replicate n (-1)) (b := List.replicate n 0) (by simp)] <;> rfl)) ?_;rintro x hx;intro E hE;simp only [ac, pZ, simprocAttr] at hE;subst hE;have hml := x9 n (List.replicate n (-1)) (List.replicate n 0) x;refine ab (dR fun K hK => ?_);(repeat refine eV ?_);refine aa (hK _ (wK [3, 8, 9, 10] ?_));clear hK K;refine ab (dI (fun hb => ?_) (fun hb => ?_))
 ·have hxl : x < n := by simpa using hb
  refine af ?_;show DW _ _ _ _ _;refine ab (ae ?_);refine ab (dR fun K hK => ?_);(repeat refine eV ?_);refine aa (hK _ (wK [3, 4, 8, 9] ?_));clear hK K;have dX := And.intro dX (@hml);refine dR fun K hK => ?_;(repeat refine eV ?_);refine aa (hK _ (a7 [3, 8, 9] (by simp only [ac, pZ, simprocAttr , pn, Nw (n := n) (b := List.replicate n 0) hxl (Rh (x := (-1 : Int)) hxl)]; exact rfl) ?_));clear hK K;refine dR fun K hK => ?_;(repeat refine eV ?_);have dK := @bi;refine aa (hK _ ?_);clear hK K;show ∃ x, _ ∧ _ ∧ Weak _ _;refine ⟨x + 1, ?_, ?_, an [3, 8, 9]⟩
  ·exact hxl
  ·omega
 ·have hxl : x = n := by
   have : ¬ (x : Int) < (n : Int) := by simpa using hb
   omega
  subst hxl;refine am ?_;refine wK [3] ?_;refine ab (dR fun K hK => ?_);(repeat refine eV ?_);refine aa (hK _ (a7 [2] (by simp only [ac, pZ, simprocAttr , Nx (n := x) (a := List.replicate x (-1)) (b := List.replicate x 0) (by simp)]; exact rfl) ?_));clear hK K;exact ak (aq Tryz.results221 (.one (.own _ _ _ _ rfl rfl (own1 (bn _ _)))) (by decide) rfl)
end
end Go.Proofs.YtolpiolnhgpjjaaGreat

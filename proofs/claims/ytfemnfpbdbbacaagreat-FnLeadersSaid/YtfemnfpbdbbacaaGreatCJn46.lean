/- Parts of the proof. -/
import Derived.Test.YtfemnfpbdbbacaaGreatCJn21
import Derived.Test.YtfemnfpbdbbacaaGreatCJn35
import Derived.Test.YtfemnfpbdbbacaaGreatCVca
import Derived.Test.YtfemnfpbdbbacaaGreatCJn19
import Derived.Test.YtfemnfpbdbbacaaGreatCJn8
import Derived.Test.YtfemnfpbdbbacaaGreatCJn6
import Derived.Test.YtfemnfpbdbbacaaGreatCNw1
import Derived.Test.YtfemnfpbdbbacaaGreatCNw3
import Derived.Test.YtfemnfpbdbbacaaGreatCMk
import Derived.Test.YtfemnfpbdbbacaaGreatCIm4
import Derived.StillTailTactics
import Derived.Test.YtfemnfpbdbbacaaGreatCJn27
import Derived.Test.YtfemnfpbdbbacaaGreatCJn13
import Derived.Test.YtfemnfpbdbbacaaGreatCDix
import Derived.Test.YtfemnfpbdbbacaaGreatCJn40
import Derived.Test.YtfemnfpbdbbacaaGreatCJn29
import Derived.Test.YtfemnfpbdbbacaaGreatCJn31
import Derived.Test.YtfemnfpbdbbacaaGreatCJn23
import Derived.Test.YtfemnfpbdbbacaaGreatCJn30
import Derived.Test.YtfemnfpbdbbacaaGreatCDt
import Derived.Test.YtfemnfpbdbbacaaGreatCJn43
import Derived.Test.YtfemnfpbdbbacaaGreatCDso
import Derived.Test.YtfemnfpbdbbacaaGreatCJn18
import Derived.Test.YtfemnfpbdbbacaaGreatCJn32
import Derived.Carry
import Derived.Maps.OwnOps
set_option linter.unusedSimpArgs false
set_option linter.unusedVariables false
namespace Go.Proofs.YtfemnfpbdbbacaaGreat
section
open Go Go.RowKit
theorem Sw (f : NF) (N : Net) (hf : Fine N) (hin : N.inputs.length = N.ends.length) (hl : N.ends.length ≤ 1000) (hp : 0 < N.ends.length) :
 DCalls Tryz.prog 68 [.agg (br f N), .c (.p (.slice none 0 0))] (fun r => r = [.own false [.sl true 3 1 ((cu N 0).map iC)]]) := ne fun w vs h1 h2 => by
 obtain ⟨u, c, rfl, g1, g2⟩ := I5 h1 h2;obtain rfl : c = .slice none 0 0 := fm g2;exact oh (S' := fun _ => True) u _ N none w (T3 g1) hf hin hl hp rfl
theorem Vp (f : NF) (o : Bool) (tt : TypeId) (N : Net) (t : Nat) (hf : Fine N) (hin : N.inputs.length = N.ends.length) (hl : N.ends.length ≤ 1000) (hp : 0 < N.ends.length) :
 DCalls Tryz.prog 68 [.agg (br f N), .c (ints o tt (cu N t))] (fun r => r = [.own false [.sl true 3 1 ((cu N (t + 1)).map iC)]]) := ne fun w vs h1 h2 => by
 obtain ⟨u, c, rfl, g1, g2⟩ := I5 h1 h2;refine oh u c N (some (cu N t)) w (T3 g1) hf hin hl hp ⟨lz g2, ei _ _, fun x hx => ?_⟩;have := sx (by omega) t x hx;omega
def zBDpj1 := PLift.up (And.intro ap (And.intro a7 (And.intro b4 (And.intro bl (And.intro @if_pos.{1} (And.intro @netO.eq_1 (And.intro @bt (And.intro @bi @trivial))))))))
theorem Y9 : type_of% zBDpj1.down := zBDpj1.down
set_option maxRecDepth 8000 in
set_option maxHeartbeats 0 in
theorem Gw (f : NF) (N : Net) (d : Nat) (hf : Fine N) (hin : N.inputs.length = N.ends.length) (hl : N.ends.length ≤ 1000) (hp : 0 < N.ends.length) (hd : IsSd N d) :
 DCalls Tryz.prog 36 [.agg (br f N)] (fun r => r = [.c (.p (.int .i64 d)), .own false [.sl true 3 1 ((cu N d).map iC)]]) := by
 have hdl := hd.lt (hf.rng hp);refine ao Tryz.func36 rfl (by rw [Tryz.ntmps36]; simp) fun w0 => ?_;rw [Tryz.ntmps36];have dX := Y9;simp only [b7, bf, Arg.av, br, ch, ints, ends];refine ab (dR fun K hK => ?_);(repeat refine eV ?_);refine aa (hK _ (wK [1] ?_));clear hK K;refine ab (dR fun K hK => ?_);(repeat refine eV ?_);refine cL rfl ⟨rfl, _, rfl⟩ (by omega) (by first | exact W2) (Sw ⟨false, f.t1, f.o2, f.t2, false, f.t3, false, f.t4⟩ N hf hin hl hp) ?_;rintro _ rfl;(repeat refine eV ?_);refine aa (hK _ (wK [1, 4] ?_));clear hK K;refine ab (dR fun K hK => ?_);(repeat refine eV ?_);refine aa (hK _ (wK [1, 4, 5] ?_));clear hK K;refine ae ?_;refine au (X := Nat) (fun t => t ≤ d) (fun t => [(5, .c (.p (.int .i64 t)))]) (fun t => [((4, 0), ⟨none, [.sl true 3 1 ((cu N t).map iC)]⟩)]) (fun t => d - t) 0 (Nat.zero_le _) (by first | rfl | (simp only [ac, pZ, simprocAttr, Int.natCast_zero] <;> rfl)) ?_;rintro t ht;intro E hE;simp only [ac, pZ, simprocAttr] at hE;subst hE;refine ab (ae ?_);refine ab (dR fun K hK => ?_);(repeat refine eV ?_);refine cL rfl ⟨rfl, _, rfl⟩ (by omega) (by first | exact W2) (Vp ⟨false, f.t1, f.o2, f.t2, false, f.t3, false, f.t4⟩ true 3 N t hf hin hl hp) ?_;rintro _ rfl;(repeat refine eV ?_);refine aa (hK _ (wK [1, 4, 5, 6] ?_));clear hK K;refine ab ?_;refine ab (dR fun K hK => ?_);(repeat refine eV ?_);refine cL rfl ⟨rfl, _, rfl⟩ (by omega) (by first | exact Hu) (j5 true 3 (cu N (t + 1)) (by rw [ei]; omega) (sx (by omega) _)) ?_;rintro _ rfl;(repeat refine eV ?_);refine cL rfl ⟨rfl, _, rfl⟩ (by omega) (by first | exact Hu) (j5 true 3 (cu N t) (by rw [ei]; omega) (sx (by omega) _)) ?_;rintro _ rfl;(repeat refine eV ?_);have dK := @ph;refine aa (hK _ (az [1, 4, 5, 6, 18] ?_));clear hK K;refine dI ?_ ?_<;>intro hb
 ·have he : cd N (t + 1) = cd N t := by simp at hb; omega
  have htd : t = d := by
   rcases Nat.lt_or_ge t d with h | h
   ·exact absurd he (hd.2 t h)
   ·omega
  refine ab (dR fun K hK => ?_);(repeat refine eV ?_);refine aa (hK _ (wK [2, 3] ?_));clear hK K;exact aj (am Tryz.results36 (.two (.plain _ _ rfl) (.own _ _ _ _ rfl rfl (own1 (cm _ _)))) (by decide) (by rw [htd]))
 ·have htd : t < d := by
   rcases Nat.lt_or_ge t d with h | h
   ·exact h
   ·have : t = d := by omega
    subst this;have := hd.1;simp [this] at hb
  refine ah ?_;show DW _ _ _ _ _;refine dR fun K hK => ?_;(repeat refine eV ?_);refine aa (hK _ (wK [1, 4, 5] ?_));clear hK K;refine dR fun K hK => ?_;(repeat refine eV ?_);have dK := @bp;refine aa (hK _ ?_);clear hK K;show ∃ x, _ ∧ _ ∧ Weak _ _;refine ⟨t + 1, ?_, ?_, a6 [1, 4, 5]⟩
  ·omega
  ·omega
end
section
open Go Go.RowKit
section
variable {N P : Net} {m : Nat} {ord : List Int}
theorem Cc {n : Nat} {b : Nat → Bool} : Ce n b = true ↔ ∃ j, j < n ∧ b j = true := by
 unfold Ce;rw [List.any_eq_true];exact ⟨fun ⟨j, h1, h2⟩ => ⟨j, List.mem_range.1 h1, h2⟩, fun ⟨j, h1, h2⟩ => ⟨j, List.mem_range.2 h1, h2⟩⟩
theorem Cd {n : Nat} {b : Nat → Bool} (h : ∀ j, j < n → b j = false) : Ce n b = false := by
 rw [← Bool.not_eq_true];intro h2;obtain ⟨j, h3, h4⟩ := Cc.1 h2;rw [h j h3] at h4; cases h4
end
end
end Go.Proofs.YtfemnfpbdbbacaaGreat

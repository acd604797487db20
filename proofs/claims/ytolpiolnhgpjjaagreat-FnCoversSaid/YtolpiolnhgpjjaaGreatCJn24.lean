/- Parts of the proof. -/
import Derived.Test.YtolpiolnhgpjjaaGreatCJn21
import Derived.Test.YtolpiolnhgpjjaaGreatCDcv
import Derived.Test.YtolpiolnhgpjjaaGreatCDt
import Derived.Test.YtolpiolnhgpjjaaGreatCJn8
set_option linter.unusedSimpArgs false
set_option linter.unusedVariables false
namespace Go.Proofs.YtolpiolnhgpjjaaGreat
section
open Go Go.RowKit
def Ag (xs ys : List Int) : Bool := decide (xs = ys)
theorem xb (xs : List Int) : Ag xs xs = true := decide_eq_true rfl
theorem Mv {xs ys : List Int} (hl : xs.length = ys.length) (h : ∀ j, j < xs.length → gi xs j = gi ys j) : Ag xs ys = true := by
 refine decide_eq_true (List.ext_getElem hl fun i h1 h2 => ?_);have := h i h1;rwa [cf h1, cf h2] at this
def sameIntsSt6 : Nat → Stat
 | 0 => ⟨[0], [], [], [16], [], []⟩
 | 1 => ⟨[5], [], [], [17], [], []⟩
 | 2 => ⟨[16, 17], [], [], [18], [], []⟩
 | 3 => ⟨[18], [], [], [19], [], []⟩
 | 4 => ⟨[1], [], [], [20], [], []⟩
 | 5 => ⟨[5], [], [], [21], [], []⟩
 | 6 => ⟨[20, 21], [], [], [22], [], []⟩
 | 7 => ⟨[22], [], [], [23], [], []⟩
 | 8 => ⟨[19, 23], [], [], [24], [], []⟩
 | _ => ⟨[], [], [], [], [], []⟩
def zBDsm1 := PLift.up (And.intro bh (And.intro ce (And.intro @if_pos.{1} (And.intro @bz @trivial))))
theorem Uu : type_of% zBDsm1.down := zBDsm1.down
set_option maxRecDepth 8000 in
set_option maxHeartbeats 0 in
theorem xc (o : Bool) (t : TypeId) (xs : List Int) (o2 : Bool) (t2 : TypeId) (ys : List Int) (hxl : xs.length ≤ 1000000) (hyl : ys.length ≤ 1000000) : DCalls Tryz.prog 11 [.c (.sl o t 1 (xs.map iC)), .c (.sl o2 t2 1 (ys.map iC))] (fun q => q = [.c (.p (.bool (Ag xs ys)))]) := by
 refine ao Tryz.func11 rfl (by rw [Tryz.ntmps11]; simp) fun w0 => ?_;rw [Tryz.ntmps11];have dX := Uu;simp only [b4, bc, Arg.av, bw, b8, ints, ends];refine ab (dR fun K hK => ?_);(repeat refine eV ?_);refine aa (hK _ (wK [0, 1] ?_));clear hK K;refine ab ?_;refine ab (dR fun K hK => ?_);(repeat refine eV ?_);refine aa (hK _ (wK [0, 1, 10] ?_));clear hK K;refine dI ?_ ?_<;>intro hb
 ·have hne : Ag xs ys = false := decide_eq_false fun e => by subst e; simp at hb
  refine ab (dR fun K hK => ?_);(repeat refine eV ?_);refine aa (hK _ (wK [4] ?_));clear hK K;exact ak (aq Tryz.results11 (.one (.plain _ _ rfl)) (by decide) (by rw [hne]))
 ·have hl : xs.length = ys.length := by simp at hb; omega
  refine af ?_;show DW _ _ _ _ _;refine ab ?_;refine ab (dR fun K hK => ?_);(repeat refine eV ?_);refine aa (hK _ (wK [0, 1, 12, 13] ?_));clear hK K;refine ae ?_;refine ax (X := Nat) (fun k => k ≤ xs.length ∧ ∀ j, j < k → gi xs j = gi ys j) (fun k => [(13, .c (.p (.int .i64 k)))]) (fun k => []) (fun k => xs.length - k) 0 ⟨Nat.zero_le _, fun j hj => by simp at hj⟩ (by first | rfl | (simp only [ac, pZ, simprocAttr, Int.natCast_zero] <;> rfl)) ?_;rintro k ⟨hk, hs⟩;intro E hE;simp only [ac, pZ, simprocAttr] at hE;subst hE;refine ab (dR fun K hK => ?_);(repeat refine eV ?_);refine aa (hK _ (wK [0, 1, 12, 13, 14] ?_));clear hK K;refine ab (dI (fun hb => ?_) (fun hb => ?_))
  ·have hkl : k < xs.length := by simpa using hb
   have hkl2 : k < ys.length := by omega
   refine af ?_;show DW _ _ _ _ _;refine ab (ae ?_);refine ab (dR fun K hK => ?_);(repeat refine eV ?_);refine aa (hK _ (wK [0, 1, 5, 12, 13] ?_));clear hK K;have dX := And.intro dX (@sameIntsSt6.eq_def);refine ab (fg sameIntsSt6 (fun j r => True) fun K hK => ?_);(repeat refine dV ?_);refine bg (hK _ (wK [0, 1, 12, 13, 24] ?_));clear hK K;refine dI ?_ ?_<;>intro hb
   ·have hne : Ag xs ys = false := decide_eq_false fun e => by subst e; simp at hb
    refine ab (dR fun K hK => ?_);(repeat refine eV ?_);refine aa (hK _ (wK [4] ?_));clear hK K;exact ak (aq Tryz.results11 (.one (.plain _ _ rfl)) (by decide) (by rw [hne]))
   ·have he : gi xs k = gi ys k := by simpa using hb
    refine af ?_;show DW _ _ _ _ _;refine dR fun K hK => ?_;(repeat refine eV ?_);have dK := @bi;refine aa (hK _ ?_);clear hK K;show ∃ x, _ ∧ _ ∧ Weak _ _;refine ⟨k + 1, ?_, ?_, an [0, 1, 12, 13]⟩
    ·refine ⟨hkl, fun j hj => ?_⟩
     rcases Nat.lt_or_ge j k with h | h
     ·exact hs j h
     ·obtain rfl : j = k := by omega
      exact he
    ·omega
  ·have hkl : k = xs.length := by
    have : ¬ (k : Int) < (xs.length : Int) := by simpa using hb
    omega
   subst hkl;have hne : Ag xs ys = true := Mv hl hs;refine am ?_;refine wK [] ?_;refine ab (dR fun K hK => ?_);(repeat refine eV ?_);refine aa (hK _ (wK [4] ?_));clear hK K;exact ak (aq Tryz.results11 (.one (.plain _ _ rfl)) (by decide) (by rw [hne]))
end
section
open Go Go.RowKit
def Ct (n : Nat) (b : Nat → Bool) : Int := match (List.range n).find? b with
 | some i => i
 | none => -1
theorem Lb {n i : Nat} {b : Nat → Bool} (hi : i < n) (hb : b i = true) (hn : ∀ j, j < i → b j = false) : Ct n b = i := by
 unfold Ct
 have : (List.range n).find? b = some i := by
  rw [List.find?_range_eq_some];exact ⟨hb, by simpa using hi, fun j hj => by simp [hn j hj]⟩
 rw [this]
theorem Lc {n : Nat} {b : Nat → Bool} (hn : ∀ j, j < n → b j = false) : Ct n b = -1 := by
 unfold Ct
 have : (List.range n).find? b = none := by
  rw [List.find?_eq_none];exact fun j hj => by simp [hn j (by simpa using hj)]
 rw [this]
def Fx (n : Nat) (b : Nat → Bool) : Bool := (List.range n).any b
theorem Rj (n : Nat) (b : Nat → Bool) : decide ((0 : Int) ≤ Ct n b) = Fx n b := by
 unfold Ct Fx
 cases h : (List.range n).find? b with
 | none =>
  have : (List.range n).any b = false := by
   rw [List.any_eq_false];intro x hx;exact List.find?_eq_none.1 h x hx
  rw [this]; rfl
 | some i =>
  have : (List.range n).any b = true := List.any_eq_true.2 ⟨i, List.mem_of_find?_eq_some h, List.find?_some h⟩;rw [this]; simp
end
end Go.Proofs.YtolpiolnhgpjjaaGreat

/- Parts of the proof. -/
import Derived.Test.YtfemnfpbdbbacaaGreatCDbf
import Derived.Test.YtfemnfpbdbbacaaGreatCJn8
import Derived.Test.YtfemnfpbdbbacaaGreatCJn13
import Derived.Test.YtfemnfpbdbbacaaGreatCJn6
import Derived.Test.YtfemnfpbdbbacaaGreatCJn35
import Derived.StillTailTactics
import Derived.Lib.BitFns
import Derived.Test.YtfemnfpbdbbacaaGreatCDix
import Derived.Test.YtfemnfpbdbbacaaGreatCJn29
import Derived.Test.YtfemnfpbdbbacaaGreatCJn25
import Derived.Test.YtfemnfpbdbbacaaGreatCJn31
import Derived.Test.YtfemnfpbdbbacaaGreatCJn27
import Derived.Test.YtfemnfpbdbbacaaGreatCJn21
import Derived.Test.YtfemnfpbdbbacaaGreatCDcv
import Derived.Test.YtfemnfpbdbbacaaGreatCDt
import Derived.Test.YtfemnfpbdbbacaaGreatCIm4
import Derived.Test.YtfemnfpbdbbacaaGreatCMk
import Derived.Test.YtfemnfpbdbbacaaGreatCDcu
import Derived.Test.YtfemnfpbdbbacaaGreatCJn19
import Derived.Test.YtfemnfpbdbbacaaGreatCNw1
import Derived.Test.YtfemnfpbdbbacaaGreatCNw3
set_option linter.unusedSimpArgs false
set_option linter.unusedVariables false
namespace Go.Proofs.YtfemnfpbdbbacaaGreat
section
open Go Go.RowKit
theorem mmF {a b : Int} : (if false = true then max a b else min a b) = min a b := if_neg (by simp)
end
section
open Go Go.RowKit
theorem ew {N : Net} (hg : bb N = true) : Sym N.ends ∧ (1 ≤ N.ends.length ∧ N.ends.length ≤ 40) ∧ N.ids.length ≤ 2097152 ∧ ∀ a, (gl N.ends a).length ≤ 1000 := by
 have hn := dh hg;refine ⟨(f8 hg).sym, hn, by have := Ie hg; omega, fun a => ?_⟩
 rcases Nat.lt_or_ge a N.ends.length with h | h
 ·have := If hg h; omega
 ·have : gl N.ends a = [] := by unfold gl; rw [List.getD_eq_getElem?_getD, List.getElem?_eq_none h]; rfl
  rw [this]; simp
end
section
open Go Go.RowKit
def qC (e : Int × Int × Int × Int) : List C := [.p (.int .i64 e.1), .p (.int .i64 e.2.1), .p (.int .i64 e.2.2.1), .p (.int .i64 e.2.2.2)]
def gq (L : List (Int × Int × Int × Int)) (k : Nat) : Int × Int × Int × Int := L.getD k (0, 0, 0, 0)
theorem jbh {L : List (Int × Int × Int × Int)} {k : Nat} (h : k < L.length) : gq L k = L[k] := by simp [gq, h]
theorem jcp {L : List (Int × Int × Int × Int)} {k : Nat} (h : k < L.length) : (L.map qC).getD k [] = [.p (.int .i64 (gq L k).1), .p (.int .i64 (gq L k).2.1), .p (.int .i64 (gq L k).2.2.1), .p (.int .i64 (gq L k).2.2.2)] := by
 rw [List.getD_eq_getElem?_getD, List.getElem?_map, List.getElem?_eq_getElem h, jbh h]; rfl
end
section
open Go Go.RowKit
def Vi : Net := ⟨[], [], []⟩
noncomputable def okN (P : Net) : Net := if bb P = true then P else Vi
def zBDpq1 := PLift.up (And.intro ap (And.intro a7 (And.intro b4 (And.intro bl (And.intro bw (And.intro @if_pos.{1} (And.intro @bt (And.intro b6 (And.intro @cg (And.intro @cf (And.intro @bi (And.intro @b8 (And.intro @ce @trivial)))))))))))))
theorem Y7 : type_of% zBDpq1.down := zBDpq1.down
set_option maxRecDepth 8000 in
set_option maxHeartbeats 0 in
theorem O2 (P : Net) (hi : P.ids.length ≤ 2097152) : tb Tryz.prog 43 true (netO P) [] (fun r => r = [.own true (netO (okN P)), .c (.p (.bool (bb P)))]) := by
 refine D8 Tryz.func43 rfl (by rw [Tryz.ntmps43]; simp) fun w0 => ?_;rw [Tryz.ntmps43];have dX := Y7;simp only [ya, bf, Arg.av, netO, List.length_cons, List.length_nil, Nat.reduceAdd];refine ab (dR fun K hK => ?_);(repeat refine eV ?_);refine aa (hK _ (wK [1, 2] ?_));clear hK K;refine ab ?_;refine ab (dR fun K hK => ?_);(repeat refine eV ?_);refine cL rfl ⟨rfl, _, rfl⟩ (by omega) (by first | exact jw) (eg NFo P hi) ?_;rintro _ rfl;(repeat refine eV ?_);obtain hg | hg := Bool.eq_false_or_eq_true (bb P)
 ·have dX := And.intro dX (@hg);(repeat refine eV ?_);have dK := @hg;refine aa (hK _ (az [1, 2, 6] ?_));clear hK K;refine dI ?_ ?_<;>intro hb
  ·cases hb
  ·refine ah ?_;show DW _ _ _ _ _;refine ab (dR fun K hK => ?_);(repeat refine eV ?_);refine aa (hK _ (wK [2, 3] ?_));clear hK K;exact aj (am Tryz.results43 (.two (.cell 2 _ _ _ _ rfl rfl ap rfl rfl (ax _)) (.plain _ _ rfl)) (by decide) (by rw [okN, if_pos hg, hg]))
 ·have dX := And.intro dX (@hg);(repeat refine eV ?_);have dK := @hg;refine aa (hK _ (az [1, 2, 6] ?_));clear hK K;refine dI ?_ ?_<;>intro hb
  ·refine ab (dR fun K hK => ?_);(repeat refine eV ?_);refine aa (hK _ (wK [2, 3] ?_));clear hK K;refine fq 2 0 48 1 (by decide) rfl rfl [2, 3] (by simp only [ac, pZ, simprocAttr, List.modify_zero_cons, List.modify_succ_cons]; exact rfl) ?_;refine fq 2 1 3 1 (by decide) rfl rfl [2, 3] (by simp only [ac, pZ, simprocAttr, List.modify_zero_cons, List.modify_succ_cons]; exact rfl) ?_;refine fq 2 2 3 1 (by decide) rfl rfl [2, 3] (by simp only [ac, pZ, simprocAttr, List.modify_zero_cons, List.modify_succ_cons]; exact rfl) ?_;exact aj (am Tryz.results43 (.two (.cell 2 _ _ _ _ rfl rfl ap rfl rfl (ax Vi)) (.plain _ _ rfl)) (by decide) (by rw [okN, if_neg (by rw [hg]; decide), hg]; rfl))
  ·cases hb
end
section
open Go Go.RowKit
theorem Zm {l : List Int} {m : Nat} : ip l 0 m = l.take m := by simp [ip]
theorem Tr (l : List Int) (i j : Nat) : ip (l.map iC) i j = (ip l i j).map iC := by
 unfold ip;rw [List.map_take, List.map_drop]
end
end Go.Proofs.YtfemnfpbdbbacaaGreat

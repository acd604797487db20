/- Parts of the proof. -/
import Derived.Test.YtfemnfpbdbbacaaGreatCJn40
import Derived.Test.YtfemnfpbdbbacaaGreatCJn35
import Derived.Test.YtfemnfpbdbbacaaGreatCJn13
import Derived.Test.YtfemnfpbdbbacaaGreatCJn6
import Derived.Test.YtfemnfpbdbbacaaGreatCDix
import Derived.Test.YtfemnfpbdbbacaaGreatCJn31
import Derived.Test.YtfemnfpbdbbacaaGreatCJn8
import Derived.Test.YtfemnfpbdbbacaaGreatCJn27
import Derived.Test.YtfemnfpbdbbacaaGreatCJn29
import Derived.Test.YtfemnfpbdbbacaaGreatCDso
import Derived.Test.YtfemnfpbdbbacaaGreatCJn21
import Derived.Test.YtfemnfpbdbbacaaGreatCDcv
import Derived.Test.YtfemnfpbdbbacaaGreatCDt
set_option linter.unusedSimpArgs false
set_option linter.unusedVariables false
namespace Go.Proofs.YtfemnfpbdbbacaaGreat
section
set_option maxHeartbeats 0
set_option maxRecDepth 8000
open Go Go.RowKit
theorem jbx (o : Bool) (tt : TypeId) (xs : List Int) (hp : 0 < xs.length) : DCalls Tryz.prog 25 [.c (ints o tt xs)] (fun r => r = [.c (.p (.int .i64 (Lib.minOf xs)))]) := nc fun w vs h1 h2 => by
 obtain ⟨u, rfl, g1⟩ := yh h1 h2;have h := lz g1;have hb := h.bound;obtain ⟨A, c, rfl, hnc, hm, hx⟩ := h;obtain ⟨b, off, rfl, -, hc⟩ := hx hp;refine (Tryz.slices_Min_int b off xs.length c xs w hp (Nat.le_refl _) hb hc).mono ?_;rintro e w1 ⟨rfl, rfl⟩;exact ⟨by rw [List.take_length], Below.refl _ _⟩
noncomputable def Ti (N : Net) (k : Nat) : List Int := tab k (ecc N)
theorem Pw (N : Net) (k : Nat) : Ti N (k + 1) = Ti N k ++ [ecc N k] := by unfold Ti tab; rw [List.range_succ, List.map_append]; rfl
theorem Th (N : Net) (k : Nat) : (Ti N k).length = k := Ev _ _
theorem Bt (N : Net) : (j4 N).length = N.ends.length := Ev _ _
theorem Ng {N : Net} {k : Nat} (h : k < N.ends.length) : gi (j4 N) k = ecc N k := S4 h
theorem Kz {N : Net} (hs : Sym N.ends) {v : Nat} (hv : v < N.ends.length) : Lib.maxOf (da N v) = ecc N v := Dv ⟨0, by have := Ip hs hv hv; rwa [(d7 hs hv).root] at this, Int.le_refl 0⟩
theorem Tf {N : Net} (hs : Sym N.ends) {x : Int} (h : x ∈ j4 N) : 0 ≤ x ∧ x < N.ends.length := by
 obtain ⟨i, hi, rfl⟩ := List.getElem_of_mem h;have hi' : i < N.ends.length := by rw [← Bt]; exact hi
 rw [← bn hi, Ng hi'];exact ze hs hi'
theorem Nf {N : Net} {k : Nat} (h : k < N.ends.length) : ecc N k ∈ j4 N := by
 have h2 : k < (j4 N).length := by rw [Bt]; exact h
 have := List.getElem_mem h2;rwa [← bn h2, Ng h] at this
theorem Tg {N : Net} (hs : Sym N.ends) (hn : 1 ≤ N.ends.length) : Lib.maxOf (j4 N) = mx0 (j4 N) := Dv ⟨ecc N 0, Nf (by omega), (ze hs (by omega)).1⟩
theorem jbn {N : Net} (hs : Sym N.ends) (hn : 1 ≤ N.ends.length ∧ N.ends.length ≤ 40) : Lib.minOf (j4 N) = mn0 (j4 N) := Pa ⟨ecc N 0, Nf (by omega), by have := (ze hs (show 0 < N.ends.length by omega)).2; omega⟩
noncomputable def Cx (N : Net) : Bool := bb N && em N 0
def zBDme31 := PLift.up (And.intro ap (And.intro a7 (And.intro b4 (And.intro bl (And.intro bw (And.intro @if_pos.{1} (And.intro @bt (And.intro b6 (And.intro @cg (And.intro @cf (And.intro @bi (And.intro @b8 (And.intro @ce @trivial)))))))))))))
theorem Nk : type_of% zBDme31.down := zBDme31.down
theorem w5 (f : NF) (N : Net) (hg : bb N = true) : DCalls Tryz.prog 33 [.agg (br f N)] (fun r => r = [.own false [.sl true 3 1 ((j4 N).map iC)]]) := by
 obtain ⟨hs, hn, hids, hdg⟩ := ew hg;refine ao Tryz.func33 rfl (by rw [Tryz.ntmps33]; simp) fun w0 => ?_;rw [Tryz.ntmps33];have dX := Nk;simp only [b7, bf, Arg.av, br, ch, ints, ends];refine ab (dR fun K hK => ?_);(repeat refine eV ?_);refine aa (hK _ (wK [1] ?_));clear hK K;refine ab (dR fun K hK => ?_);(repeat refine eV ?_);refine aa (hK _ (wK [1, 3] ?_));clear hK K;refine ab ?_;refine ab (dR fun K hK => ?_);(repeat refine eV ?_);refine aa (hK _ (wK [1, 3, 7, 8] ?_));clear hK K;refine ae ?_;refine Kx 3 3 1 (by decide) (by simp only [ac, pZ, simprocAttr]) [1, 3, 7, 8] (by simp only [ac, pZ, simprocAttr]; exact rfl) ?_;refine au (X := Nat) (fun k => k ≤ N.ends.length) (fun k => [(8, .c (.p (.int .i64 k)))]) (fun k => [((3, 0), ⟨none, [.sl true 3 1 ((Ti N k).map iC)]⟩)]) (fun k => N.ends.length - k) 0 (Nat.zero_le _) (by first | rfl | (simp only [ac, pZ, simprocAttr, Int.natCast_zero] <;> rfl)) ?_;rintro k hk;intro E hE;simp only [ac, pZ, simprocAttr] at hE;subst hE;refine ab (dR fun K hK => ?_);(repeat refine eV ?_);refine aa (hK _ (wK [1, 3, 7, 8, 9] ?_));clear hK K;refine ab (dI (fun hb => ?_) (fun hb => ?_))
 ·have hk1 : k < N.ends.length := by simpa using hb
  have hns := Pw N k;have hel := Th N k;have hdl := (d7 hs hk1).len;have hmx := Kz hs hk1;refine ah ?_;show DW _ _ _ _ _;refine ab (ae ?_);refine ab (dR fun K hK => ?_);(repeat refine eV ?_);refine aa (hK _ (wK [1, 3, 4, 7, 8] ?_));clear hK K;refine dR fun K hK => ?_;(repeat refine eV ?_);refine cL rfl ⟨rfl, _, rfl⟩ (by omega) (by first | exact ug | exact Bc) (oo ⟨false, f.t1, f.o2, f.t2, false, f.t3, false, f.t4⟩ N k hs hk1 (by omega) hdg) ?_;rintro _ rfl;(repeat refine eV ?_);refine cL rfl ⟨rfl, _, rfl⟩ (by omega) (by first | exact ug | exact Bc) (Ub true 3 (da N k) (by omega)) ?_;rintro _ rfl;(repeat refine eV ?_);have dX := And.intro dX (@hmx);(repeat refine eV ?_);have dK := And.intro @jh @hmx;refine aa (hK _ (az [1, 3, 7, 8] ?_));clear hK K;refine dR fun K hK => ?_;(repeat refine eV ?_);have dK := And.intro @bp @hns;refine aa (hK _ ?_);clear hK K;show ∃ x, _ ∧ _ ∧ Weak _ _;refine ⟨k + 1, ?_, ?_, a6 [1, 3, 7, 8]⟩
  ·omega
  ·omega
 ·have hk2 : k = N.ends.length := by
   have : ¬ k < N.ends.length := by simpa using hb
   omega
  refine an ?_;refine ba [3] (by simp only [ac, pZ, simprocAttr]; exact rfl) ?_;refine ab (dR fun K hK => ?_);(repeat refine eV ?_);refine aa (hK _ (wK [2] ?_));clear hK K;exact aj (am Tryz.results33 (.one (.own _ _ _ _ rfl rfl (own1 (cm _ _)))) (by decide) (by rw [hk2]; rfl))
theorem Gb (f : NF) (N : Net) (hi : N.ids.length ≤ 2097152) : DCalls Tryz.prog 8 [.agg (br f N)] (fun r => r = [.c (.p (.int .i64 (if Cx N = true then mx0 (j4 N) else 0))), .c (.p (.bool (Cx N)))]) := by
 refine ao Tryz.func8 rfl (by rw [Tryz.ntmps8]; simp) fun w0 => ?_;rw [Tryz.ntmps8];have dX := Nk;simp only [b7, bf, Arg.av, br, ch, ints, ends];refine ab (dR fun K hK => ?_);(repeat refine eV ?_);refine aa (hK _ (wK [1] ?_));clear hK K;refine ab ?_;refine ab (dR fun K hK => ?_);(repeat refine eV ?_);refine cL rfl ⟨rfl, _, rfl⟩ (by omega) (by first | exact jw | exact pg) (eg ⟨false, f.t1, f.o2, f.t2, false, f.t3, false, f.t4⟩ N hi) ?_;rintro _ rfl;(repeat refine eV ?_);obtain hg | hg := Bool.eq_false_or_eq_true (bb N)
 ·obtain ⟨hs, hn, -, hdg⟩ := ew hg;have dX := And.intro dX (@hg);(repeat refine eV ?_);refine cgF rfl rfl ⟨rfl, _, rfl⟩ (by omega) (by first | exact jw | exact pg) (fu ⟨false, f.t1, f.o2, f.t2, false, f.t3, false, f.t4⟩ N hg (a := 0) (by omega)) ?_;rintro _ rfl;(repeat refine eV ?_);obtain hc | hc := Bool.eq_false_or_eq_true (em N 0)
  ·have hk : Cx N = true := by rw [Cx, hg, hc]; rfl
   have hel := Bt N;have hmx := Tg hs hn.1;have dX := And.intro dX (@hc);(repeat refine eV ?_);have dK := And.intro @hg @hc;refine aa (hK _ (az [1, 11] ?_));clear hK K;refine dI ?_ ?_<;>intro hb
   ·cases hb
   ·refine ah ?_;show DW _ _ _ _ _;refine ab (dR fun K hK => ?_);(repeat refine eV ?_);refine cL rfl ⟨rfl, _, rfl⟩ (by omega) (by first | exact W6 | exact Bc) (w5 ⟨false, f.t1, f.o2, f.t2, false, f.t3, false, f.t4⟩ N hg) ?_;rintro _ rfl;(repeat refine eV ?_);refine cL rfl ⟨rfl, _, rfl⟩ (by omega) (by first | exact W6 | exact Bc) (Ub true 3 (j4 N) (by omega)) ?_;rintro _ rfl;(repeat refine eV ?_);have dK := @hmx;refine aa (hK _ (az [2, 3] ?_));clear hK K;exact aj (am Tryz.results8 (.two (.plain _ _ rfl) (.plain _ _ rfl)) (by decide) (by rw [hk, if_pos rfl]))
  ·have hk : Cx N = false := by rw [Cx, hg, hc]; rfl
   have dX := And.intro dX (@hc);(repeat refine eV ?_);have dK := And.intro @hg @hc;refine aa (hK _ (az [11] ?_));clear hK K;refine dI ?_ ?_<;>intro hb
   ·refine ab (dR fun K hK => ?_);(repeat refine eV ?_);refine aa (hK _ (wK [2, 3] ?_));clear hK K;exact aj (am Tryz.results8 (.two (.plain _ _ rfl) (.plain _ _ rfl)) (by decide) (by rw [hk]; rfl))
   ·cases hb
 ·have hk : Cx N = false := by rw [Cx, hg]; rfl
  have dX := And.intro dX (@hg);(repeat refine eV ?_);have dX := And.intro dX (@hg);refine csF ?_;(repeat refine eV ?_);have dX := And.intro dX (@hg);(repeat refine eV ?_);have dK := @hg;refine aa (hK _ (az [11] ?_));clear hK K;refine dI ?_ ?_<;>intro hb
  ·refine ab (dR fun K hK => ?_);(repeat refine eV ?_);refine aa (hK _ (wK [2, 3] ?_));clear hK K;exact aj (am Tryz.results8 (.two (.plain _ _ rfl) (.plain _ _ rfl)) (by decide) (by rw [hk]; rfl))
  ·cases hb
end
section
open Go Go.RowKit
def zBPhs1 := PLift.up (And.intro a7 (And.intro b4 (And.intro @bt (And.intro @if_pos.{1} (And.intro @bi @trivial)))))
theorem Yx : type_of% zBPhs1.down := zBPhs1.down
set_option maxRecDepth 8000 in
set_option maxHeartbeats 0 in
theorem Ya (o : Bool) (t : TypeId) (xs : List Int) (x : Int) (hl : xs.length ≤ 1000000) : DCalls Tryz.prog 9 [.c (.sl o t 1 (xs.map iC)), .c (.p (.int .i64 x))] (fun r => r = [.c (.p (.bool (decide (x ∈ xs))))]) := by
 refine ao Tryz.func9 rfl (by rw [Tryz.ntmps9]; simp) fun w0 => ?_;rw [Tryz.ntmps9];have dX := Yx;simp only [b7, bf, Arg.av, br, ch, ints, ends];refine ab (dR fun K hK => ?_);(repeat refine eV ?_);refine aa (hK _ (wK [0, 1] ?_));clear hK K;refine ab ?_;refine ab (dR fun K hK => ?_);(repeat refine eV ?_);refine aa (hK _ (wK [1, 7, 8, 9] ?_));clear hK K;refine ae ?_;refine au (X := Nat) (fun k => k ≤ xs.length ∧ ∀ j, j < k → gi xs j ≠ x) (fun k => [(9, .c (.p (.int .i64 k)))]) (fun k => []) (fun k => xs.length - k) 0 ⟨Nat.zero_le _, fun j hj => absurd hj (Nat.not_lt_zero j)⟩ (by first | rfl | (simp only [ac, pZ, simprocAttr, Int.natCast_zero] <;> rfl)) ?_;rintro k ⟨hk, hne⟩;intro E hE;simp only [ac, pZ, simprocAttr] at hE;subst hE;refine ab (dR fun K hK => ?_);(repeat refine eV ?_);refine aa (hK _ (wK [1, 7, 8, 9, 10] ?_));clear hK K;refine ab (dI (fun hb => ?_) (fun hb => ?_))
 ·have hk1 : k < xs.length := by simpa using hb
  refine ah ?_;show DW _ _ _ _ _;refine ab (ae ?_);refine ab (dR fun K hK => ?_);(repeat refine eV ?_);refine aa (hK _ (wK [1, 6, 7, 8, 9] ?_));clear hK K;refine ab (dR fun K hK => ?_);(repeat refine eV ?_);refine aa (hK _ (wK [1, 7, 8, 9, 15] ?_));clear hK K;refine dI ?_ ?_<;>intro hb
  ·have he : gi xs k = x := by simpa using hb
   have hm : x ∈ xs := by rw [← he, bn hk1]; exact List.getElem_mem hk1
   have hd : decide (x ∈ xs) = true := decide_eq_true hm;refine ab (dR fun K hK => ?_);(repeat refine eV ?_);refine aa (hK _ (wK [4] ?_));clear hK K;exact aj (am Tryz.results9 (.one (.plain _ _ rfl)) (by decide) (by rw [hd]))
  ·have he : gi xs k ≠ x := by simpa using hb
   refine ah ?_;show DW _ _ _ _ _;refine dR fun K hK => ?_;(repeat refine eV ?_);have dK := @bp;refine aa (hK _ ?_);clear hK K;show ∃ x, _ ∧ _ ∧ Weak _ _;refine ⟨k + 1, ?_, ?_, a6 [1, 7, 8, 9]⟩
   ·refine ⟨hk1, fun j hj => ?_⟩
    by_cases h : j = k
    ·rw [h]; exact he
    ·exact hne j (by omega)
   ·omega
 ·have hk2 : k = xs.length := by
   have : ¬ k < xs.length := by simpa using hb
   omega
  have hd : decide (x ∈ xs) = false := decide_eq_false fun hm => by
   obtain ⟨j, hj, he⟩ := List.getElem_of_mem hm;exact hne j (by omega) (by rw [bn hj]; exact he)
  refine an ?_;refine ba [] (by simp only [ac, pZ, simprocAttr]; exact rfl) ?_;refine ab (dR fun K hK => ?_);(repeat refine eV ?_);refine aa (hK _ (wK [4] ?_));clear hK K;exact aj (am Tryz.results9 (.one (.plain _ _ rfl)) (by decide) (by rw [hd]))
end
end Go.Proofs.YtfemnfpbdbbacaaGreat

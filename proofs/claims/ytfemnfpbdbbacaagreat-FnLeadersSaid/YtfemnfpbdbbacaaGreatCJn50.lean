/- Parts of the proof. -/
import Derived.Test.YtfemnfpbdbbacaaGreatCJn48
import Derived.Test.YtfemnfpbdbbacaaGreatCJn47
import Derived.Test.YtfemnfpbdbbacaaGreatCJn46
import Derived.Test.YtfemnfpbdbbacaaGreatCJn35
import Derived.Test.YtfemnfpbdbbacaaGreatCJn23
import Derived.Test.YtfemnfpbdbbacaaGreatCJn30
import Derived.Test.YtfemnfpbdbbacaaGreatCJn43
import Derived.Test.YtfemnfpbdbbacaaGreatCJn27
import Derived.Test.YtfemnfpbdbbacaaGreatCJn40
import Derived.Test.YtfemnfpbdbbacaaGreatCJn13
import Derived.Test.YtfemnfpbdbbacaaGreatCJn6
import Derived.Test.YtfemnfpbdbbacaaGreatCDix
import Derived.Test.YtfemnfpbdbbacaaGreatCJn31
import Derived.Test.YtfemnfpbdbbacaaGreatCJn8
import Derived.Test.YtfemnfpbdbbacaaGreatCJn29
import Derived.Test.YtfemnfpbdbbacaaGreatCDso
set_option linter.unusedSimpArgs false
set_option linter.unusedVariables false
namespace Go.Proofs.YtfemnfpbdbbacaaGreat
section
set_option maxHeartbeats 0
set_option maxRecDepth 8000
open Go Go.RowKit
def viTwSt1 : Nat → Stat
 | 0 => ⟨[1], [(1, 1)], [1], [3], [], []⟩
 | 1 => ⟨[1], [(1, 1)], [1], [4], [], []⟩
 | 2 => ⟨[4], [], [], [5], [], []⟩
 | 3 => ⟨[3, 5], [], [], [6], [], []⟩
 | 4 => ⟨[6], [], [6], [2], [(6, 1)], []⟩
 | _ => ⟨[], [], [], [], [], []⟩
def zBLd11 := PLift.up (And.intro ap (And.intro a7 (And.intro b4 (And.intro @if_pos.{1} (And.intro @bt (And.intro @bi (And.intro @b8 (And.intro @ce @trivial))))))))
theorem pr : type_of% zBLd11.down := zBLd11.down
theorem Ny (f : NF) (N : Net) (d : Nat) (hg : bb N = true) (hd : IsSd N d) : DCalls Tryz.prog 39 [.agg (br f N)] (fun r => r = [.own false [.sl true 3 1 ((cu N d).map iC)]]) := by
 have hn := dh hg;have hr := jb hg;have hdl := hd.lt hr;refine ao Tryz.func39 rfl (by rw [Tryz.ntmps39]; simp) fun w0 => ?_;rw [Tryz.ntmps39];have dX := pr;simp only [b7, bf, Arg.av, br, ch, ints, ends];refine ab (dR fun K hK => ?_);(repeat refine eV ?_);refine aa (hK _ (wK [1] ?_));clear hK K;have dX := And.intro dX (@viTwSt1.eq_def);refine ab (ec viTwSt1 (fun j r => match j with | 2 => r = [.c (.p (.int .i64 d))] | 3 => r = [.own false [.sl true 3 1 ((cu N d).map iC)]] | _ => True) fun K hK => ?_);(repeat refine dV ?_);have dX := And.intro dX (@viTwSt1.eq_def);refine dcF rfl ⟨rfl, _, rfl⟩ (by omega) (by first | exact W0 | exact Sa) (Jn ⟨false, f.t1, f.o2, f.t2, false, f.t3, false, f.t4⟩ N d (f8 hg) (lw hg) (by omega) (by omega) hd) ?_;rintro _ rfl;(repeat refine dV ?_);have dX := And.intro dX (@viTwSt1.eq_def);refine dcF rfl ⟨rfl, _, rfl⟩ (by omega) (by first | exact W0 | exact Sa) (xj ⟨false, f.t1, f.o2, f.t2, false, f.t3, false, f.t4⟩ N d (f8 hg) (lw hg) (by omega) (by omega) (by omega)) ?_;rintro _ rfl;(repeat refine dV ?_);refine aw (hK _ (wK [2] ?_));clear hK K;exact aj (am Tryz.results39 (.one (.own _ _ _ _ rfl rfl (own1 (cm _ _)))) (by decide) rfl)
theorem C0 (f : NF) (N : Net) (d : Nat) (hg : bb N = true) (hd : IsSd N d) : DCalls Tryz.prog 40 [.agg (br f N)] (fun r => r = [.own false [.sl true 3 1 ((cu N d).map iC)], .c (.p (.bool true))]) := by
 have hn := dh hg;obtain ⟨-, -, hids, -⟩ := ew hg;refine ao Tryz.func40 rfl (by rw [Tryz.ntmps40]; simp) fun w0 => ?_;rw [Tryz.ntmps40];have dX := pr;simp only [b7, bf, Arg.av, br, ch, ints, ends];refine ab (dR fun K hK => ?_);(repeat refine eV ?_);refine aa (hK _ (wK [1] ?_));clear hK K;refine ab ?_;refine ab (dR fun K hK => ?_);(repeat refine eV ?_);refine cL rfl ⟨rfl, _, rfl⟩ (by omega) (by first | exact jw) (eg ⟨false, f.t1, f.o2, f.t2, false, f.t3, false, f.t4⟩ N (by omega)) ?_;rintro _ rfl;(repeat refine eV ?_);have dK := @hg;refine aa (hK _ (az [1, 8] ?_));clear hK K;refine dI ?_ ?_<;>intro hb
 ·cases hb
 ·refine ah ?_;show DW _ _ _ _ _;refine ab (dR fun K hK => ?_);(repeat refine eV ?_);refine cL rfl ⟨rfl, _, rfl⟩ (by omega) (by first | exact W5) (Gw ⟨false, f.t1, f.o2, f.t2, false, f.t3, false, f.t4⟩ N d (f8 hg) (lw hg) (by omega) (by omega) hd) ?_;rintro _ rfl;(repeat refine eV ?_);refine aa (hK _ (wK [5] ?_));clear hK K;refine ab (dR fun K hK => ?_);(repeat refine eV ?_);refine aa (hK _ (wK [2, 3] ?_));clear hK K;exact aj (am Tryz.results40 (.two (.own _ _ _ _ rfl rfl (own1 (cm _ _))) (.plain _ _ rfl)) (by decide) rfl)
noncomputable def sw (N : Net) (d : Nat) : Bool := (cd N d : Int) == (N.ends.length : Int)
theorem lf (f : NF) (N : Net) (d : Nat) (hg : bb N = true) (hc : em N 0 = true) (hd : IsSd N d) : DCalls Tryz.prog 11 [.agg (br f N)] (fun r => r = [.c (.p (.bool (sw N d))), .c (.p (.bool true))]) := by
 have hn := dh hg;obtain ⟨-, -, hids, -⟩ := ew hg;have hcl := ei N d;refine ao Tryz.func11 rfl (by rw [Tryz.ntmps11]; simp) fun w0 => ?_;rw [Tryz.ntmps11];have dX := pr;simp only [b7, bf, Arg.av, br, ch, ints, ends];refine ab (dR fun K hK => ?_);(repeat refine eV ?_);refine aa (hK _ (wK [1] ?_));clear hK K;refine ab ?_;refine ab (dR fun K hK => ?_);(repeat refine eV ?_);refine cL rfl ⟨rfl, _, rfl⟩ (by omega) (by first | exact jw | exact pg) (eg ⟨false, f.t1, f.o2, f.t2, false, f.t3, false, f.t4⟩ N (by omega)) ?_;rintro _ rfl;(repeat refine eV ?_);have dX := And.intro dX (@hg);(repeat refine eV ?_);have dX := And.intro dX (@hg);refine cgF rfl rfl ⟨rfl, _, rfl⟩ (by omega) (by first | exact jw | exact pg) (fu ⟨false, f.t1, f.o2, f.t2, false, f.t3, false, f.t4⟩ N hg (show 0 < N.ends.length by omega)) ?_;rintro _ rfl;(repeat refine eV ?_);have dX := And.intro dX (And.intro @hg @hc);(repeat refine eV ?_);have dK := And.intro @hg @hc;refine aa (hK _ (az [1, 13] ?_));clear hK K;refine dI ?_ ?_<;>intro hb
 ·cases hb
 ·refine ah ?_;show DW _ _ _ _ _;refine ab (dR fun K hK => ?_);(repeat refine eV ?_);refine cL rfl ⟨rfl, _, rfl⟩ (by omega) (by first | exact W5) (Gw ⟨false, f.t1, f.o2, f.t2, false, f.t3, false, f.t4⟩ N d (f8 hg) (lw hg) (by omega) (by omega) hd) ?_;rintro _ rfl;(repeat refine eV ?_);refine aa (hK _ (wK [5] ?_));clear hK K;refine ab (dR fun K hK => ?_);(repeat refine eV ?_);refine cL rfl ⟨rfl, _, rfl⟩ (by omega) (by first | exact Hu) (j5 true 3 (cu N d) (by omega) (sx (by omega) _)) ?_;rintro _ rfl;(repeat refine eV ?_);have dK := And.intro @ph @hcl;refine aa (hK _ (az [2, 3] ?_));clear hK K;exact aj (am Tryz.results11 (.two (.plain _ _ rfl) (.plain _ _ rfl)) (by decide) rfl)
theorem jv (f : NF) (N : Net) (hi : N.ids.length ≤ 2097152) (h : (bb N && em N 0) = false) : DCalls Tryz.prog 11 [.agg (br f N)] (fun r => r = [.c (.p (.bool false)), .c (.p (.bool false))]) := by
 refine ao Tryz.func11 rfl (by rw [Tryz.ntmps11]; simp) fun w0 => ?_;rw [Tryz.ntmps11];have dX := pr;simp only [b7, bf, Arg.av, br, ch, ints, ends];refine ab (dR fun K hK => ?_);(repeat refine eV ?_);refine aa (hK _ (wK [1] ?_));clear hK K;refine ab ?_;refine ab (dR fun K hK => ?_);(repeat refine eV ?_);refine cL rfl ⟨rfl, _, rfl⟩ (by omega) (by first | exact jw | exact pg) (eg ⟨false, f.t1, f.o2, f.t2, false, f.t3, false, f.t4⟩ N (by omega)) ?_;rintro _ rfl;(repeat refine eV ?_);obtain hg | hg := Bool.eq_false_or_eq_true (bb N)
 ·have hn := dh hg;have hc : em N 0 = false := by rw [hg] at h; exact h
  have dX := And.intro dX (@hg);(repeat refine eV ?_);have dX := And.intro dX (@hg);refine cgF rfl rfl ⟨rfl, _, rfl⟩ (by omega) (by first | exact jw | exact pg) (fu ⟨false, f.t1, f.o2, f.t2, false, f.t3, false, f.t4⟩ N hg (show 0 < N.ends.length by omega)) ?_;rintro _ rfl;(repeat refine eV ?_);have dX := And.intro dX (And.intro @hg @hc);(repeat refine eV ?_);have dK := And.intro @hg @hc;refine aa (hK _ (az [1, 13] ?_));clear hK K;refine dI ?_ ?_<;>intro hb
  ·refine ab (dR fun K hK => ?_);(repeat refine eV ?_);refine aa (hK _ (wK [2, 3] ?_));clear hK K;exact aj (am Tryz.results11 (.two (.plain _ _ rfl) (.plain _ _ rfl)) (by decide) rfl)
  ·cases hb
 ·have dX := And.intro dX (@hg);(repeat refine eV ?_);have dX := And.intro dX (@hg);refine csF ?_;(repeat refine eV ?_);have dX := And.intro dX (@hg);(repeat refine eV ?_);have dK := @hg;refine aa (hK _ (az [1, 13] ?_));clear hK K;refine dI ?_ ?_<;>intro hb
  ·refine ab (dR fun K hK => ?_);(repeat refine eV ?_);refine aa (hK _ (wK [2, 3] ?_));clear hK K;exact aj (am Tryz.results11 (.two (.plain _ _ rfl) (.plain _ _ rfl)) (by decide) rfl)
  ·cases hb
def coRSt5 : Nat → Stat
 | 0 => ⟨[2], [(2, 1)], [2], [17], [], []⟩
 | 1 => ⟨[5], [], [], [18], [], []⟩
 | 2 => ⟨[6], [], [], [19], [], []⟩
 | 3 => ⟨[18, 19], [(5, 1)], [], [20], [], []⟩
 | 4 => ⟨[20], [(5, 2)], [], [21], [], []⟩
 | 5 => ⟨[17, 21], [], [], [22], [], []⟩
 | 6 => ⟨[22], [(22, 1)], [], [23], [], []⟩
 | 7 => ⟨[], [], [], [24], [], []⟩
 | _ => ⟨[], [], [], [], [], []⟩
theorem Jd {ws L : List Int} : ∀ j, (j7 ws L j).length ≤ L.length + j
 | 0 => Nat.le_refl _
 | j + 1 => by
  have := Jd (ws := ws) (L := L) j;rw [j7];split
  ·omega
  ·rw [List.length_append, List.length_singleton]; omega
theorem Pz (f : NF) (N : Net) (hg : bb N = true) : DCalls Tryz.prog 64 [.agg (br f N), .c (.p (.int .i64 0))] (fun r => r = [.own false [.sl true 3 1 ((rcR N N.ends.length).map iC)]]) := by
 obtain ⟨hs, hn, hids, hdg⟩ := ew hg;refine ao Tryz.func64 rfl (by rw [Tryz.ntmps64]; simp) fun w0 => ?_;rw [Tryz.ntmps64];have dX := pr;simp only [b7, bf, Arg.av, br, ch, ints, ends];refine ab (dR fun K hK => ?_);(repeat refine eV ?_);refine aa (hK _ (wK [1, 2] ?_));clear hK K;refine ab (dR fun K hK => ?_);(repeat refine eV ?_);refine aa (hK _ (wK [2, 5] ?_));clear hK K;refine ab ?_;refine ab (dR fun K hK => ?_);(repeat refine eV ?_);refine aa (hK _ (wK [2, 5, 6] ?_));clear hK K;refine ae ?_;refine au (X := Nat) (fun k => k ≤ N.ends.length) (fun k => [(6, .c (.p (.int .i64 k)))]) (fun k => [((5, 0), ⟨none, [.sl true 3 1 ((rcR N k).map iC)]⟩)]) (fun k => N.ends.length - k) 0 (Nat.zero_le _) (by first | rfl | (simp only [ac, pZ, simprocAttr, Int.natCast_zero] <;> rfl)) ?_;rintro k hk;intro E hE;simp only [ac, pZ, simprocAttr] at hE;subst hE;have hLl := yz hs (by omega) k;have hI := qg hs (by omega) k
 have hLs : rcR N (k + 1) = if k < (rcR N k).length then j7 (iu N (gi (rcR N k) k).toNat (gl N.ends (gi (rcR N k) k).toNat).length) (rcR N k) (gl N.ends (gi (rcR N k) k).toNat).length else rcR N k := rfl
 have hend : (rcR N k).length ≤ k → rcR N k = rcR N N.ends.length := fun h => U8 hs (by omega) h hk;obtain ⟨L, hL⟩ : ∃ L, L = rcR N k := ⟨_, rfl⟩;rw [← hL] at hLl hI hLs hend ⊢;refine ab ?_;refine ab (dR fun K hK => ?_);(repeat refine eV ?_);refine aa (hK _ (wK [2, 5, 6, 14] ?_));clear hK K;refine dI ?_ ?_<;>intro hb
 ·have hk1 : k < L.length := by simpa using hb
  rw [if_pos hk1] at hLs
  obtain ⟨v, hv, hvn⟩ : ∃ v : Nat, gi L k = (v : Int) ∧ v < N.ends.length := by
   have := hI.rng (gi L k) (by rw [bn hk1]; exact List.getElem_mem hk1);exact ⟨(gi L k).toNat, by omega, by omega⟩
  rw [hv, Int.toNat_natCast] at hLs;have hdv := hdg v;have hwl := Hl (N := N) (v := v) (Nat.le_refl (gl N.ends v).length);obtain ⟨ws, hws⟩ : ∃ ws, ws = iu N v (gl N.ends v).length := ⟨_, rfl⟩;have hA0 : L.map iC = (j7 ws L 0).map iC := rfl;refine ah ?_;show DW _ _ _ _ _;refine ab (ae ?_);have dX := And.intro dX (And.intro @coRSt5.eq_def @hv);refine ab (ec coRSt5 (fun j r => match j with | 5 => r = [.own false [.sl true 3 1 ((iu N v (gl N.ends v).length).map iC)]] | _ => True) fun K hK => ?_);(repeat refine dV ?_);have dX := And.intro dX (And.intro @coRSt5.eq_def @hv);refine dcF rfl ⟨rfl, _, rfl⟩ (by omega) (by first | exact Sd) (Hm ⟨false, f.t1, f.o2, f.t2, false, f.t3, false, f.t4⟩ N v hvn (by omega)) ?_;rintro _ rfl;(repeat refine dV ?_);refine aw (hK _ (wK [2, 5, 6, 22, 23, 24] ?_));clear hK K;rw [← hws] at hwl hLs ⊢;refine ae ?_;refine au (X := Nat) (fun j => j ≤ ws.length) (fun j => [(24, .c (.p (.int .i64 j)))]) (fun j => [((5, 0), ⟨none, [.sl true 3 1 ((j7 ws L j).map iC)]⟩)]) (fun j => ws.length - j) 0 (Nat.zero_le _) (by first | rfl | (simp only [ac, pZ, simprocAttr, Int.natCast_zero] <;> rfl)) ?_;rintro j hj;intro E hE;simp only [ac, pZ, simprocAttr] at hE;subst hE;have hAl := Jd (ws := ws) (L := L) j
  have hAs : j7 ws L (j + 1) = if pn (j7 ws L j) (gi ws j) = true then j7 ws L j else j7 ws L j ++ [gi ws j] := rfl
  obtain ⟨A, hA⟩ : ∃ A, A = j7 ws L j := ⟨_, rfl⟩;rw [← hA] at hAl hAs ⊢;refine ab (dR fun K hK => ?_);(repeat refine eV ?_);refine aa (hK _ (wK [2, 5, 6, 22, 23, 24, 25] ?_));clear hK K;refine ab (dI (fun hb => ?_) (fun hb => ?_))
  ·have hj1 : j < ws.length := by simpa using hb
   refine ah ?_;show DW _ _ _ _ _;refine ab (ae ?_);refine ab (dR fun K hK => ?_);(repeat refine eV ?_);refine aa (hK _ (wK [2, 5, 6, 8, 22, 23, 24] ?_));clear hK K;refine ab (dR fun K hK => ?_);(repeat refine eV ?_);refine cL rfl ⟨rfl, _, rfl⟩ (by omega) (by first | exact Se) (M3 true 3 A (gi ws j)) ?_;rintro _ rfl;(repeat refine eV ?_);obtain h1 | h1 := Bool.eq_false_or_eq_true (pn A (gi ws j))
   ·rw [if_pos h1] at hAs;have dK := @h1;refine aa (hK _ (az [2, 5, 6, 8, 22, 23, 24, 31] ?_));clear hK K;refine dI ?_ ?_<;>intro hb
    ·cases hb
    ·refine ah ?_;show DW _ _ _ _ _;refine dR fun K hK => ?_;(repeat refine eV ?_);have dK := And.intro @bp @hAs;refine aa (hK _ ?_);clear hK K;show ∃ x, _ ∧ _ ∧ Weak _ _;refine ⟨j + 1, ?_, ?_, a6 [2, 5, 6, 22, 23, 24]⟩
     ·omega
     ·omega
   ·rw [if_neg (by rw [h1]; decide)] at hAs;have dK := @h1;refine aa (hK _ (az [2, 5, 6, 8, 22, 23, 24, 31] ?_));clear hK K;refine dI ?_ ?_<;>intro hb
    ·refine dR fun K hK => ?_;(repeat refine eV ?_);have dK := And.intro @jh (Eq.symm hAs);refine aa (hK _ (az [2, 5, 6, 22, 23, 24] ?_));clear hK K;refine dR fun K hK => ?_;(repeat refine eV ?_);have dK := @bp;refine aa (hK _ ?_);clear hK K;show ∃ x, _ ∧ _ ∧ Weak _ _;refine ⟨j + 1, ?_, ?_, a6 [2, 5, 6, 22, 23, 24]⟩
     ·omega
     ·omega
    ·cases hb
  ·have hj2 : j = (gl N.ends v).length := by
    have : ¬ j < ws.length := by simpa using hb
    omega
   have hAe : A = rcR N (k + 1) := by rw [hA, hLs, hj2]
   refine an ?_;refine ba [2, 5, 6] (by simp only [ac, pZ, simprocAttr]; exact rfl) ?_;refine dR fun K hK => ?_;(repeat refine eV ?_);have dK := And.intro @bp @hAe;refine aa (hK _ ?_);clear hK K;show ∃ x, _ ∧ _ ∧ Weak _ _;refine ⟨k + 1, ?_, ?_, a6 [2, 5, 6]⟩
   ·omega
   ·omega
 ·have hk2 : L.length ≤ k := by
   have : ¬ k < L.length := by simpa using hb
   omega
  refine an ?_;refine ba [5] (by simp only [ac, pZ, simprocAttr]; exact rfl) ?_;rw [hend hk2];refine ab (dR fun K hK => ?_);(repeat refine eV ?_);refine aa (hK _ (wK [4] ?_));clear hK K;exact aj (am Tryz.results64 (.one (.own _ _ _ _ rfl rfl (own1 (cm _ _)))) (by decide) rfl)
def coCSt1 : Nat → Stat
 | 0 => ⟨[1], [(1, 1)], [1], [3], [], []⟩
 | 1 => ⟨[3], [], [], [4], [], []⟩
 | 2 => ⟨[4], [(4, 1)], [], [5], [], []⟩
 | 3 => ⟨[1], [(1, 1)], [], [6], [], []⟩
 | 4 => ⟨[6], [(1, 1)], [], [7], [], []⟩
 | 5 => ⟨[7], [], [], [8], [], []⟩
 | 6 => ⟨[5, 8], [], [], [9], [], []⟩
 | 7 => ⟨[9], [], [], [2], [], []⟩
 | _ => ⟨[], [], [], [], [], []⟩
theorem jl (f : NF) (N : Net) (hg : bb N = true) : DCalls Tryz.prog 29 [.agg (br f N)] (fun r => r = [.c (.p (.bool (em N 0)))]) := by
 obtain ⟨hs, hn, hids, hdg⟩ := ew hg;have hll := yz hs (show 0 < N.ends.length by omega) N.ends.length
 have hcc : (((rcR N N.ends.length).length : Int) == (N.ends.length : Int)) = em N 0 := by
  rw [Bool.eq_iff_iff, beq_iff_eq, ← Ro hs (show 0 < N.ends.length by omega)];omega
 refine ao Tryz.func29 rfl (by rw [Tryz.ntmps29]; simp) fun w0 => ?_;rw [Tryz.ntmps29];have dX := pr;simp only [b7, bf, Arg.av, br, ch, ints, ends];refine ab (dR fun K hK => ?_);(repeat refine eV ?_);refine aa (hK _ (wK [1] ?_));clear hK K;have dX := And.intro dX (@coCSt1.eq_def);refine ab (ec coCSt1 (fun j r => match j with | 1 => r = [.own false [.sl true 3 1 ((rcR N N.ends.length).map iC)]] | _ => True) fun K hK => ?_);(repeat refine dV ?_);have dX := And.intro dX (@coCSt1.eq_def);refine dcF rfl ⟨rfl, _, rfl⟩ (by omega) (by first | exact ja9) (Pz ⟨false, f.t1, f.o2, f.t2, false, f.t3, false, f.t4⟩ N hg) ?_;rintro _ rfl;(repeat refine dV ?_);have dK := @hcc;refine aw (hK _ (az [2] ?_));clear hK K;exact aj (am Tryz.results29 (.one (.plain _ _ rfl)) (by decide) rfl)
def elcSt3 : Nat → Stat
 | 0 => ⟨[1], [(1, 1)], [1], [12], [], []⟩
 | 1 => ⟨[12], [], [], [13], [], []⟩
 | 2 => ⟨[13], [(13, 1)], [13], [14], [], []⟩
 | 3 => ⟨[1], [(1, 1)], [], [15], [], []⟩
 | 4 => ⟨[15], [(1, 1)], [], [16], [], []⟩
 | 5 => ⟨[16], [], [], [17], [], []⟩
 | 6 => ⟨[14, 17], [], [], [18], [], []⟩
 | 7 => ⟨[18], [], [], [2], [], []⟩
 | 8 => ⟨[], [], [], [3], [], []⟩
 | _ => ⟨[], [], [], [], [], []⟩
theorem Ck (f : NF) (N : Net) (d : Nat) (hg : bb N = true) (hc : em N 0 = true) (hd : IsSd N d) : DCalls Tryz.prog 12 [.agg (br f N)] (fun r => r = [.c (.p (.bool (sw N d))), .c (.p (.bool true))]) := by
 have hn := dh hg;have hcl := ei N d;refine ao Tryz.func12 rfl (by rw [Tryz.ntmps12]; simp) fun w0 => ?_;rw [Tryz.ntmps12];have dX := pr;simp only [b7, bf, Arg.av, br, ch, ints, ends];refine ab (dR fun K hK => ?_);(repeat refine eV ?_);refine aa (hK _ (wK [1] ?_));clear hK K;refine ab ?_;refine ab (dR fun K hK => ?_);(repeat refine eV ?_);refine cL rfl ⟨rfl, _, rfl⟩ (by omega) (by first | exact xz | exact xy) (uf ⟨false, f.t1, f.o2, f.t2, false, f.t3, false, f.t4⟩ N) ?_;rintro _ rfl;(repeat refine eV ?_);have dX := And.intro dX (@hg);(repeat refine eV ?_);have dX := And.intro dX (@hg);refine cgF rfl rfl ⟨rfl, _, rfl⟩ (by omega) (by first | exact xz | exact xy) (jl ⟨false, f.t1, f.o2, f.t2, false, f.t3, false, f.t4⟩ N hg) ?_;rintro _ rfl;(repeat refine eV ?_);have dX := And.intro dX (And.intro @hg @hc);(repeat refine eV ?_);have dK := And.intro @hg @hc;refine aa (hK _ (az [1, 11] ?_));clear hK K;refine dI ?_ ?_<;>intro hb
 ·cases hb
 ·refine ah ?_;show DW _ _ _ _ _;have dX := And.intro dX (@elcSt3.eq_def);refine ab (ec elcSt3 (fun j r => match j with | 1 => r = [.own false [.sl true 3 1 ((cu N d).map iC)]] | 2 => r = [.c (.p (.int .i64 (ja (cu N d))))] | _ => True) fun K hK => ?_);(repeat refine dV ?_);have dX := And.intro dX (@elcSt3.eq_def);refine dcF rfl ⟨rfl, _, rfl⟩ (by omega) (by first | exact W4 | exact Mt) (Ny ⟨false, f.t1, f.o2, f.t2, false, f.t3, false, f.t4⟩ N d hg hd) ?_;rintro _ rfl;(repeat refine dV ?_);have dX := And.intro dX (@elcSt3.eq_def);refine dcF rfl ⟨rfl, _, rfl⟩ (by omega) (by first | exact W4 | exact Mt) (zu true 3 (cu N d) (sx (by omega) _) (by omega)) ?_;rintro _ rfl;(repeat refine dV ?_);have dK := @ph;refine aw (hK _ (az [2, 3] ?_));clear hK K;exact aj (am Tryz.results12 (.two (.plain _ _ rfl) (.plain _ _ rfl)) (by decide) rfl)
theorem yt (f : NF) (N : Net) (h : (bb N && em N 0) = false) : DCalls Tryz.prog 12 [.agg (br f N)] (fun r => r = [.c (.p (.bool false)), .c (.p (.bool false))]) := by
 refine ao Tryz.func12 rfl (by rw [Tryz.ntmps12]; simp) fun w0 => ?_;rw [Tryz.ntmps12];have dX := pr;simp only [b7, bf, Arg.av, br, ch, ints, ends];refine ab (dR fun K hK => ?_);(repeat refine eV ?_);refine aa (hK _ (wK [1] ?_));clear hK K;refine ab ?_;refine ab (dR fun K hK => ?_);(repeat refine eV ?_);refine cL rfl ⟨rfl, _, rfl⟩ (by omega) (by first | exact xz | exact xy) (uf ⟨false, f.t1, f.o2, f.t2, false, f.t3, false, f.t4⟩ N) ?_;rintro _ rfl;(repeat refine eV ?_);obtain hg | hg := Bool.eq_false_or_eq_true (bb N)
 ·have hc : em N 0 = false := by rw [hg] at h; exact h
  have dX := And.intro dX (@hg);(repeat refine eV ?_);have dX := And.intro dX (@hg);refine cgF rfl rfl ⟨rfl, _, rfl⟩ (by omega) (by first | exact xz | exact xy) (jl ⟨false, f.t1, f.o2, f.t2, false, f.t3, false, f.t4⟩ N hg) ?_;rintro _ rfl;(repeat refine eV ?_);have dX := And.intro dX (And.intro @hg @hc);(repeat refine eV ?_);have dK := And.intro @hg @hc;refine aa (hK _ (az [1, 11] ?_));clear hK K;refine dI ?_ ?_<;>intro hb
  ·refine ab (dR fun K hK => ?_);(repeat refine eV ?_);refine aa (hK _ (wK [2, 3] ?_));clear hK K;exact aj (am Tryz.results12 (.two (.plain _ _ rfl) (.plain _ _ rfl)) (by decide) rfl)
  ·cases hb
 ·have dX := And.intro dX (@hg);(repeat refine eV ?_);have dX := And.intro dX (@hg);refine csF ?_;(repeat refine eV ?_);have dX := And.intro dX (@hg);(repeat refine eV ?_);have dK := @hg;refine aa (hK _ (az [1, 11] ?_));clear hK K;refine dI ?_ ?_<;>intro hb
  ·refine ab (dR fun K hK => ?_);(repeat refine eV ?_);refine aa (hK _ (wK [2, 3] ?_));clear hK K;exact aj (am Tryz.results12 (.two (.plain _ _ rfl) (.plain _ _ rfl)) (by decide) rfl)
  ·cases hb
end
section
set_option maxHeartbeats 0
set_option maxRecDepth 8000
open Go Go.RowKit
def fbT (cls : List Int) (K v : Nat) : List (List Int) := Jq K (fbL cls v)
theorem zd (cls : List Int) (K v : Nat) : (fbT cls K v).length = K := Gr _ _
theorem Tb (cls : List Int) (K : Nat) : List.replicate K ([] : List Int) = fbT cls K 0 := by
 unfold fbT Jq;apply List.ext_getElem
 ·simp
 ·intro i h1 h2;simp only [List.getElem_replicate, List.getElem_map];rfl
theorem Tc {cls : List Int} {K v w : Nat} (hv : gi cls v = w) (hw : w < K) : (fbT cls K v).set w (fbL cls v w ++ [(v : Int)]) = fbT cls K (v + 1) := by
 unfold fbT Jq;apply List.ext_getElem
 ·simp
 ·intro i h1 h2;simp only [List.getElem_set, List.getElem_map, List.getElem_range];rw [Td, hv]
  by_cases h : w = i
  ·subst h; simp
  ·rw [if_neg h, if_neg (by omega)]
theorem Nb (cls : List Int) (n c : Nat) : (fbL cls n c).length ≤ n := by
 have := List.length_filter_le (fun v : Int => gi cls v.toNat == (c : Int)) (du n);rw [db] at this;exact this
def zBLd21 := PLift.up (And.intro ap (And.intro @netO.eq_1 (And.intro @bt (And.intro bl (And.intro bw (And.intro b6 (And.intro b4 (And.intro a7 (And.intro jn (And.intro @if_pos.{1} (And.intro @cg (And.intro @cf (And.intro @bi (And.intro @b8 (And.intro @ce (And.intro @Fk (And.intro @L2 @trivial)))))))))))))))))
theorem To : type_of% zBLd21.down := zBLd21.down
theorem Ta (o : Bool) (t : TypeId) (cls : List Int) (K : Nat) (hl : cls.length ≤ 100000) (hK : K ≤ 100000) (hc : ∀ v, v < cls.length → 0 ≤ gi cls v ∧ gi cls v < K) : DCalls Tryz.prog 73 [.c (.sl o t 1 (cls.map iC)), .c (.p (.int .i64 K))] (fun r => r = [.own false [.sl true 25 1 ((fbT cls K cls.length).map (lsC 3))]]) := by
 have hz := Tb cls K;refine ao Tryz.func73 rfl (by rw [Tryz.ntmps73]; simp) fun w0 => ?_;rw [Tryz.ntmps73];have dX := To;simp only [b7, bf, Arg.av, br, ch, ints, ends];refine ab (dR fun K hK => ?_);(repeat refine eV ?_);refine aa (hK _ (wK [0, 1] ?_));clear hK K;have dX := And.intro dX (And.intro @zi @Int.toNat_natCast);refine ab (dR fun K hK => ?_);(repeat refine eV ?_);have dK := @zi;refine aa (hK _ (az [0, 5] ?_));clear hK K;refine Nh 5 0 3 1 (by decide) rfl rfl [0, 5] (by simp only [ac, pZ, simprocAttr, List.modify_zero_cons, List.modify_succ_cons, Xk]; exact rfl) ?_;refine ab ?_;refine ab (dR fun K hK => ?_);(repeat refine eV ?_);refine aa (hK _ (wK [5, 10, 11, 12] ?_));clear hK K;refine ae ?_;refine au (X := Nat) (fun v => v ≤ cls.length) (fun v => [(12, .c (.p (.int .i64 v)))]) (fun v => [((5, 0), ⟨none, [.sl true 25 1 ((fbT cls K v).map (lsC 3))]⟩)]) (fun v => cls.length - v) 0 (Nat.zero_le _) (by first | rfl | (simp only [ac, pZ, simprocAttr, Int.natCast_zero, ← hz] <;> rfl)) ?_;rintro v hv;intro E hE;simp only [ac, pZ, simprocAttr] at hE;subst hE;have hTl := zd cls K v;refine ab (dR fun K hK => ?_);(repeat refine eV ?_);refine aa (hK _ (wK [5, 10, 11, 12, 13] ?_));clear hK K;refine ab (dI (fun hb => ?_) (fun hb => ?_))
 ·have hv1 : v < cls.length := by simpa using hb
  obtain ⟨c0, c1⟩ := hc v hv1;obtain ⟨w, hw⟩ := Int.eq_ofNat_of_zero_le c0;have hwK : w < K := by omega
  have hst := Tc hw hwK;have hlg : lg (fbT cls K v) w = fbL cls v w := Sh hwK;have hfl := Nb cls v w;obtain ⟨T, hT⟩ : ∃ T, T = fbT cls K v := ⟨_, rfl⟩;rw [← hT] at hTl hst hlg ⊢;refine ah ?_;show DW _ _ _ _ _;refine ab (ae ?_);have dX := And.intro dX (@hw);refine ab (dR fun K hK => ?_);(repeat refine eV ?_);have dK := @hw;refine aa (hK _ (az [5, 6, 7, 10, 11, 12] ?_));clear hK K;have dX := And.intro dX (And.intro @Int.toNat_natCast (And.intro @X3 (And.intro @hlg @List.length_modify.{0})));refine dR fun K hK => ?_;(repeat refine eV ?_);have dK := And.intro @jh (And.intro @Vl @hst);refine aa (hK _ (az [5, 10, 11, 12] ?_));clear hK K;refine dR fun K hK => ?_;(repeat refine eV ?_);have dK := @bp;refine aa (hK _ ?_);clear hK K;show ∃ x, _ ∧ _ ∧ Weak _ _;refine ⟨v + 1, ?_, ?_, a6 [5, 10, 11, 12]⟩
  ·omega
  ·omega
 ·have hv2 : v = cls.length := by
   have : ¬ v < cls.length := by simpa using hb
   omega
  refine an ?_;refine ba [5] (by simp only [ac, pZ, simprocAttr]; exact rfl) ?_;rw [hv2];refine ab (dR fun K hK => ?_);(repeat refine eV ?_);refine aa (hK _ (wK [4] ?_));clear hK K;exact aj (am Tryz.results73 (.one (.own _ _ _ _ rfl rfl (own1 (Hb _ _ _)))) (by decide) rfl)
def ipSt6 : Nat → Stat
 | 0 => ⟨[4], [(4, 1)], [], [35], [], []⟩
 | 1 => ⟨[35], [(4, 1)], [], [36], [], []⟩
 | 2 => ⟨[2], [], [], [37], [], []⟩
 | 3 => ⟨[7], [], [], [38], [], []⟩
 | 4 => ⟨[37, 38], [], [], [39], [], []⟩
 | 5 => ⟨[39], [], [], [40], [], []⟩
 | 6 => ⟨[36, 40], [], [], [41], [], []⟩
 | 7 => ⟨[41], [], [], [42], [], []⟩
 | 8 => ⟨[42], [], [], [9], [], []⟩
 | _ => ⟨[], [], [], [], [], []⟩
def ipSt7 : Nat → Stat
 | 0 => ⟨[8], [], [], [43], [], []⟩
 | 1 => ⟨[43], [], [], [44], [], []⟩
 | 2 => ⟨[9], [], [], [45], [], []⟩
 | 3 => ⟨[45], [], [], [46], [], []⟩
 | 4 => ⟨[44, 46], [], [], [47], [], []⟩
 | 5 => ⟨[47], [], [], [48], [], []⟩
 | 6 => ⟨[3, 48], [(3, 1)], [], [49], [], []⟩
 | 7 => ⟨[49, 48], [(3, 1)], [], [50], [], []⟩
 | 8 => ⟨[7, 48], [], [], [51], [], []⟩
 | 9 => ⟨[50, 51, 48], [], [], [52], [], []⟩
 | 10 => ⟨[52, 48], [], [], [53], [], []⟩
 | 11 => ⟨[4, 48], [(4, 1)], [], [54], [], []⟩
 | 12 => ⟨[54, 48], [(4, 1)], [], [55], [], []⟩
 | 13 => ⟨[2, 48], [], [], [56], [], []⟩
 | 14 => ⟨[7, 48], [], [], [57], [], []⟩
 | 15 => ⟨[56, 57, 48], [], [], [58], [], []⟩
 | 16 => ⟨[58, 48], [], [], [59], [], []⟩
 | 17 => ⟨[55, 59, 48], [], [], [60], [], []⟩
 | 18 => ⟨[60, 48], [], [], [61], [], []⟩
 | 19 => ⟨[53, 61, 48], [], [], [62], [], []⟩
 | 20 => ⟨[48, 62], [], [], [63], [], []⟩
 | _ => ⟨[], [], [], [], [], []⟩
def Kn : Nat → Stat
 | 0 => ⟨[9], [], [], [71], [], []⟩
 | 1 => ⟨[10], [], [], [72], [], []⟩
 | 2 => ⟨[71, 72], [], [], [73], [], []⟩
 | 3 => ⟨[73], [], [], [74], [], []⟩
 | 4 => ⟨[2], [], [], [75], [], []⟩
 | 5 => ⟨[11], [(11, 1)], [], [76], [], []⟩
 | 6 => ⟨[76], [(11, 1)], [], [77], [], []⟩
 | 7 => ⟨[75, 77], [], [], [78], [], []⟩
 | 8 => ⟨[78], [], [], [79], [], []⟩
 | 9 => ⟨[11], [(11, 1)], [], [80], [], []⟩
 | 10 => ⟨[80], [(11, 1)], [], [81], [], []⟩
 | 11 => ⟨[79, 81], [], [], [82], [], []⟩
 | 12 => ⟨[74, 82], [], [], [83], [], []⟩
 | _ => ⟨[], [], [], [], [], []⟩
theorem H8 (f g : NF) (A B : Net) (o : Bool) (t : TypeId) (m : List Int) (hg : bb A = true) (hB : B.inputs.length = B.ends.length) (hBl : B.ends.length ≤ 100000) (h : pmB A B m = true) : DCalls Tryz.prog 74 [.agg (br f A), .agg (br g B), .c (.sl o t 1 (m.map iC))] (fun r => r = [.c (.p (.bool true))]) := by
 obtain ⟨hs, hn, hids, hdg⟩ := ew hg;have hin := lw hg;unfold pmB at h;rw [Bool.and_eq_true, Bool.and_eq_true, Bool.not_eq_true'] at h;obtain ⟨⟨hm0, hm1⟩, hm2⟩ := h;have hml : m.length = A.ends.length := by simpa using hm0
 have hpm : ∀ v, v < A.ends.length → pmV A B m v = false := fun v hv => by
  cases h5 : pmV A B m v with
  | false => rfl
  | true =>
   have := Cc.2 ⟨v, hv, h5⟩;rw [hm2] at this; cases this
 have hmr : ∀ v, v < A.ends.length → ∃ u : Nat, gi m v = (u : Int) ∧ u < B.ends.length := fun v hv => by
  have h5 := List.all_eq_true.1 hm1 (gi m v) (by rw [bn (by omega)]; exact List.getElem_mem (by omega));have := df.1 h5;exact ⟨(gi m v).toNat, by omega, by omega⟩
 refine ao Tryz.func74 rfl (by rw [Tryz.ntmps74]; simp) fun w0 => ?_;rw [Tryz.ntmps74];have dX := To;simp only [b7, bf, Arg.av, br, ch, ints, ends];refine ab (dR fun K hK => ?_);(repeat refine eV ?_);refine aa (hK _ (wK [2, 3, 4] ?_));clear hK K;refine ab ?_;have dX := And.intro dX (And.intro @hml @bne_self_eq_false.{0});refine ab (dR fun K hK => ?_);(repeat refine eV ?_);have dX := And.intro dX (And.intro @hml @bne_self_eq_false.{0});refine cgF rfl rfl ⟨rfl, _, rfl⟩ (by omega) (by first | exact Wz) (yk o t m 0 ((B.ends.length : Int) - 1) (by omega)) ?_;rintro _ rfl;(repeat refine eV ?_);have dX := And.intro dX (And.intro @hml (And.intro @bne_self_eq_false.{0} @hm1));(repeat refine eV ?_);have dK := And.intro @hml (And.intro @bne_self_eq_false.{0} @hm1);refine aa (hK _ (az [2, 3, 4, 26] ?_));clear hK K;refine dI ?_ ?_<;>intro hb
 ·cases hb
 ·refine ah ?_;show DW _ _ _ _ _;refine ab ?_;refine ab (dR fun K hK => ?_);(repeat refine eV ?_);refine aa (hK _ (wK [2, 3, 4, 28, 29, 30] ?_));clear hK K;refine ae ?_;refine au (X := Nat) (fun v => v ≤ A.ends.length) (fun v => [(30, .c (.p (.int .i64 v)))]) (fun v => []) (fun v => A.ends.length - v) 0 (Nat.zero_le _) (by first | rfl | (simp only [ac, pZ, simprocAttr, Int.natCast_zero] <;> rfl)) ?_;rintro v hv;intro E hE;simp only [ac, pZ, simprocAttr] at hE;subst hE;refine ab (dR fun K hK => ?_);(repeat refine eV ?_);refine aa (hK _ (wK [2, 3, 4, 28, 29, 30, 31] ?_));clear hK K;refine ab (dI (fun hb => ?_) (fun hb => ?_))
  ·have hv1 : v < A.ends.length := by simpa using hb
   obtain ⟨u, hu, hul⟩ := hmr v hv1;have hp := Rw.1 (hpm v hv1);rw [hu, Int.toNat_natCast] at hp;obtain ⟨p1, p2, p3⟩ := hp;have hdv := hdg v;refine ah ?_;show DW _ _ _ _ _;refine ab (ae ?_);have dX := And.intro dX (@Int.toNat_natCast);refine ab (dR fun K hK => ?_);(repeat refine eV ?_);refine aa (hK _ (wK [2, 3, 4, 7, 8, 28, 29, 30] ?_));clear hK K;have dX := And.intro dX (And.intro @ipSt6.eq_def (And.intro @hu @Int.toNat_natCast));refine ab (ec ipSt6 (fun j r => match j with | _ => True) fun K hK => ?_);(repeat refine dV ?_);have dK := @hu;refine aw (hK _ (az [2, 3, 4, 7, 8, 9, 28, 29, 30] ?_));clear hK K;refine ab ?_;have dX := And.intro dX (And.intro @ipSt7.eq_def (And.intro @hu (And.intro (Eq.symm p1) (And.intro (Eq.symm p2) (And.intro @bne_self_eq_false.{0} @Int.toNat_natCast)))));refine ab (ec ipSt7 (fun j r => match j with | _ => True) fun K hK => ?_);(repeat refine dV ?_);have dK := And.intro @hu (And.intro (Eq.symm p1) (And.intro (Eq.symm p2) @bne_self_eq_false.{0}));refine aw (hK _ (az [2, 3, 4, 8, 9, 28, 29, 30, 63] ?_));clear hK K;refine dI ?_ ?_<;>intro hb
   ·cases hb
   ·refine ah ?_;show DW _ _ _ _ _;have dX := And.intro dX (@Int.toNat_natCast);refine ab (dR fun K hK => ?_);(repeat refine eV ?_);refine aa (hK _ (wK [2, 3, 4, 9, 28, 29, 30, 64, 65, 66] ?_));clear hK K;refine ae ?_;refine au (X := Nat) (fun i => i ≤ (gl A.ends v).length) (fun i => [(66, .c (.p (.int .i64 i)))]) (fun i => []) (fun i => (gl A.ends v).length - i) 0 (Nat.zero_le _) (by first | rfl | (simp only [ac, pZ, simprocAttr, Int.natCast_zero] <;> rfl)) ?_;rintro i hi;intro E hE;simp only [ac, pZ, simprocAttr] at hE;subst hE;refine ab (dR fun K hK => ?_);(repeat refine eV ?_);refine aa (hK _ (wK [2, 3, 4, 9, 28, 29, 30, 64, 65, 66, 67] ?_));clear hK K;refine ab (dI (fun hb => ?_) (fun hb => ?_))
    ·have hi1 : i < (gl A.ends v).length := by simpa using hb
     have hi2 : i < (gl B.ends u).length := by omega
     obtain ⟨q1, q2, q3, q4, q5⟩ := ej hs hv1 hi1;have hpi := p3 i hi1;have hq1 : (gp (gl B.ends u) i).1 = gi m (nd A v i) := by rw [hpi]; rfl
     have hq2 : (gp (gl B.ends u) i).2 = (gp (gl A.ends v) i).2 := by rw [hpi]
     refine ah ?_;show DW _ _ _ _ _;refine ab (ae ?_);have dX := And.intro dX (@Int.toNat_natCast);refine ab (dR fun K hK => ?_);(repeat refine eV ?_);refine aa (hK _ (wK [2, 3, 4, 9, 10, 11, 28, 29, 30, 64, 65, 66] ?_));clear hK K;refine ab (ec Kn (fun j r => match j with | _ => True) fun K hK => ?_)
     repeat (apply zf; (focus exact rfl); (focus simp (disch := first | omega | (intros; contradiction)) only [ac, bd, ma, pZ, simprocAttr, ap, netO, bt, bl, bw, b6, b4, a7, jn, if_pos, cg, cf, bi, b8, ce, Fk, L2 , Kn, q5, hq1, hq2, hml, Xe, bne_self_eq_false, beq_self_eq_true, Bool.and_self, Bool.not_true, Int.toNat_natCast]); (focus (simp (disch := first | omega | (intros; contradiction)) only [ac, bd, pZ, simprocAttr, ap, netO, bt, bl, bw, b6, b4, a7, jn, if_pos, cg, cf, bi, b8, ce, Fk, L2 , Kn, q5, hq1, hq2, hml, Xe, bne_self_eq_false, beq_self_eq_true, Bool.and_self, Bool.not_true, Int.toNat_natCast]; exact rfl)))
     have dK := And.intro @q5 (And.intro @hq1 (And.intro @hq2 (And.intro @bne_self_eq_false.{0} @beq_self_eq_true.{0})));refine aw (hK _ (az [2, 3, 4, 9, 28, 29, 30, 64, 65, 66, 83] ?_));clear hK K;refine dI ?_ ?_<;>intro hb
     ·cases hb
     ·refine ah ?_;show DW _ _ _ _ _;refine dR fun K hK => ?_;(repeat refine eV ?_);have dK := @bp;refine aa (hK _ ?_);clear hK K;show ∃ x, _ ∧ _ ∧ Weak _ _;refine ⟨i + 1, ?_, ?_, a6 [2, 3, 4, 9, 28, 29, 30, 64, 65, 66]⟩
      ·omega
      ·omega
    ·refine an ?_;refine ba [2, 3, 4, 28, 29, 30] (by simp only [ac, pZ, simprocAttr]; exact rfl) ?_;refine dR fun K hK => ?_;(repeat refine eV ?_);have dK := @bp;refine aa (hK _ ?_);clear hK K;show ∃ x, _ ∧ _ ∧ Weak _ _;refine ⟨v + 1, ?_, ?_, a6 [2, 3, 4, 28, 29, 30]⟩
     ·omega
     ·omega
  ·refine an ?_;refine ba [] (by simp only [ac, pZ, simprocAttr]; exact rfl) ?_;refine ab (dR fun K hK => ?_);(repeat refine eV ?_);refine aa (hK _ (wK [6] ?_));clear hK K;exact aj (am Tryz.results74 (.one (.plain _ _ rfl)) (by decide) rfl)
end
section
set_option maxHeartbeats 0
set_option maxRecDepth 8000
open Go Go.RowKit
def quSt10 : Nat → Stat
 | 0 => ⟨[6], [(6, 1)], [], [46], [], []⟩
 | 1 => ⟨[46], [(6, 1)], [], [47], [], []⟩
 | 2 => ⟨[2], [(2, 1)], [], [48], [], []⟩
 | 3 => ⟨[48], [(2, 1)], [], [49], [], []⟩
 | 4 => ⟨[8], [], [], [50], [], []⟩
 | 5 => ⟨[50], [], [], [51], [], []⟩
 | 6 => ⟨[51], [], [], [52], [], []⟩
 | 7 => ⟨[49, 52], [], [], [53], [], []⟩
 | 8 => ⟨[53], [], [], [54], [], []⟩
 | 9 => ⟨[54], [], [], [55], [], []⟩
 | 10 => ⟨[47, 55], [(6, 1), (55, 1)], [6, 55], [56], [(6, 1)], []⟩
 | 11 => ⟨[6], [(6, 1)], [], [57], [], []⟩
 | 12 => ⟨[57, 56], [(6, 1)], [56], [], [(6, 1), (56, 1)], []⟩
 | _ => ⟨[], [], [], [], [], []⟩
def quSt11 : Nat → Stat
 | 0 => ⟨[2], [(2, 1)], [], [58], [], []⟩
 | 1 => ⟨[58], [(2, 1)], [], [59], [], []⟩
 | 2 => ⟨[8], [], [], [60], [], []⟩
 | 3 => ⟨[60], [], [], [61], [], []⟩
 | 4 => ⟨[61], [], [], [62], [], []⟩
 | 5 => ⟨[59, 62], [], [], [63], [], []⟩
 | 6 => ⟨[63], [], [], [64], [], []⟩
 | 7 => ⟨[64], [], [], [65], [], []⟩
 | 8 => ⟨[], [], [], [66], [], []⟩
 | _ => ⟨[], [], [], [], [], []⟩
def quSt14 : Nat → Stat
 | 0 => ⟨[6], [(6, 1)], [], [70], [], []⟩
 | 1 => ⟨[70], [(6, 1)], [], [71], [], []⟩
 | 2 => ⟨[7], [], [], [72], [], []⟩
 | 3 => ⟨[6], [(6, 1)], [], [73], [], []⟩
 | 4 => ⟨[73], [(6, 1)], [], [74], [], []⟩
 | 5 => ⟨[7], [], [], [75], [], []⟩
 | 6 => ⟨[74, 75], [(6, 1)], [], [76], [], []⟩
 | 7 => ⟨[76], [(6, 2)], [], [77], [], []⟩
 | 8 => ⟨[1], [], [], [78], [], []⟩
 | 9 => ⟨[10], [(10, 1)], [], [79], [], []⟩
 | 10 => ⟨[79], [(10, 1)], [], [80], [], []⟩
 | 11 => ⟨[78, 80], [], [], [81], [], []⟩
 | 12 => ⟨[81], [], [], [82], [], []⟩
 | 13 => ⟨[10], [(10, 1)], [], [83], [], []⟩
 | 14 => ⟨[83], [(10, 1)], [], [84], [], []⟩
 | 15 => ⟨[82, 84], [], [], [85], [], []⟩
 | 16 => ⟨[85], [], [], [86], [], []⟩
 | 17 => ⟨[77, 86], [(6, 2), (86, 1)], [6, 86], [87], [(6, 2)], []⟩
 | 18 => ⟨[71, 72], [(6, 1)], [], [88], [], []⟩
 | 19 => ⟨[88, 87], [(6, 2)], [87], [], [(6, 2), (87, 1)], []⟩
 | _ => ⟨[], [], [], [], [], []⟩
def quE (N : Net) (cls : List Int) (c : Nat) : List (List (Int × Int)) := (List.range c).map (qsE N cls)
def quI (N : Net) (cls : List Int) (c : Nat) : List Int := (List.range c).map fun c => gi N.inputs (rpF cls N.ends.length c)
theorem Va (N : Net) (cls : List Int) (c : Nat) : (quE N cls c).length = c := by simp [quE]
theorem Ma (N : Net) (cls : List Int) (c : Nat) : (quI N cls c).length = c := by simp [quI]
theorem Rt (N : Net) (cls : List Int) (c : Nat) : quE N cls (c + 1) = quE N cls c ++ [qsE N cls c] := by simp [quE, List.range_succ]
theorem Rs (N : Net) (cls : List Int) (c : Nat) : quI N cls (c + 1) = quI N cls c ++ [gi N.inputs (rpF cls N.ends.length c)] := by simp [quI, List.range_succ]
theorem Rb {α : Type} (E : List α) (x y : α) : (E ++ [x]).set E.length y = E ++ [y] := by
 rw [List.set_append_right _ _ (Nat.le_refl _), Nat.sub_self]; rfl
theorem Vs (E : List (List (Int × Int))) (x : List (Int × Int)) : gl (E ++ [x]) E.length = x := by simp [gl]
def zBLd31 := PLift.up (And.intro ap (And.intro @bt (And.intro bl (And.intro bw (And.intro b6 (And.intro b4 (And.intro a7 (And.intro jn (And.intro @if_pos.{1} (And.intro @cg (And.intro @cf (And.intro @bi (And.intro @b8 (And.intro @ce (And.intro @Fk (And.intro @L2 @trivial))))))))))))))))
theorem Tn : type_of% zBLd31.down := zBLd31.down
theorem J0 (f : NF) (N : Net) (o : Bool) (t : TypeId) (cls : List Int) (m1 : Nat) (hg : bb N = true) (hcl : cls.length = N.ends.length) (hK0 : 0 < m1) (hK : m1 ≤ N.ends.length) (hmany : ja cls = m1) (hc : ∀ v, v < cls.length → 0 ≤ gi cls v ∧ gi cls v < m1) (hex : ∀ c : Nat, c < m1 → ∃ u, u < N.ends.length ∧ gi cls u = (c : Int)) (hQ : bb (quN N cls m1) = true) (hM : pmB N (quN N cls m1) cls = true) : DCalls Tryz.prog 41 [.agg (br f N), .c (.sl o t 1 (cls.map iC))] (fun r => r = [.own true (netO (quN N cls m1)), .c (.p (.bool true))]) := by
 obtain ⟨hs, hn, hids, hdg⟩ := ew hg;have hin := lw hg
 have hcw : (cls.all fun n => inB n 0 ((N.ends.length : Int) - 1)) = true := by
  rw [List.all_eq_true];intro x hx;obtain ⟨i, hi, rfl⟩ := List.getElem_of_mem hx;have := hc i hi;rw [bn hi] at this;exact df.2 (by omega)
 have hcx : ∀ x ∈ cls, 0 ≤ x ∧ x < 1000000 := fun x hx => by
  obtain ⟨i, hi, rfl⟩ := List.getElem_of_mem hx;have := hc i hi;rw [bn hi] at this;omega
 have hqn : DCalls Tryz.prog 21 [.agg (netO (quN N cls m1))] (fun r => r = [.c (.p (.bool true))]) := by
  have := eg NFo (quN N cls m1) (Nat.zero_le _);rw [hQ] at this;exact this
 have hqm : DCalls Tryz.prog 74 [.agg (br ⟨false, f.t1, f.o2, f.t2, false, f.t3, false, f.t4⟩ N), .agg (netO (quN N cls m1)), .c (.sl o t 1 (cls.map iC))] (fun r => r = [.c (.p (.bool true))]) :=
  H8 ⟨false, f.t1, f.o2, f.t2, false, f.t3, false, f.t4⟩ NFo N (quN N cls m1) o t cls hg (by simp [quN]) (by simp [quN]; omega) hM
 refine ao Tryz.func41 rfl (by rw [Tryz.ntmps41]; simp) fun w0 => ?_;rw [Tryz.ntmps41];have dX := Tn;simp only [b7, bf, Arg.av, br, ch, ints, ends];refine ab (dR fun K hK => ?_);(repeat refine eV ?_);refine aa (hK _ (wK [1, 2, 4] ?_));clear hK K;refine ab ?_;have dX := And.intro dX (And.intro @hcl @bne_self_eq_false.{0});refine ab (dR fun K hK => ?_);(repeat refine eV ?_);have dX := And.intro dX (And.intro @hcl @bne_self_eq_false.{0});refine cgF rfl rfl ⟨rfl, _, rfl⟩ (by omega) (by first | exact Wz) (yk o t cls 0 ((N.ends.length : Int) - 1) (by omega)) ?_;rintro _ rfl;(repeat refine eV ?_);have dX := And.intro dX (And.intro @hcl (And.intro @bne_self_eq_false.{0} @hcw));(repeat refine eV ?_);have dK := And.intro @hcl (And.intro @bne_self_eq_false.{0} @hcw);refine aa (hK _ (az [1, 2, 4, 25] ?_));clear hK K;refine dI ?_ ?_<;>intro hb
 ·cases hb
 ·refine ah ?_;show DW _ _ _ _ _;refine ab (dR fun K hK => ?_);(repeat refine eV ?_);refine aa (hK _ (wK [1, 2, 4, 6] ?_));clear hK K;refine fq 6 0 48 1 (by decide) rfl rfl [1, 2, 4, 6] (by simp only [ac, pZ, simprocAttr, List.modify_zero_cons, List.modify_succ_cons]; exact rfl) ?_;refine fq 6 1 3 1 (by decide) rfl rfl [1, 2, 4, 6] (by simp only [ac, pZ, simprocAttr, List.modify_zero_cons, List.modify_succ_cons]; exact rfl) ?_;refine fq 6 2 3 1 (by decide) rfl rfl [1, 2, 4, 6] (by simp only [ac, pZ, simprocAttr, List.modify_zero_cons, List.modify_succ_cons]; exact rfl) ?_;refine ab ?_;refine ab (dR fun K hK => ?_);(repeat refine eV ?_);refine cL rfl ⟨rfl, _, rfl⟩ (by omega) (by first | exact Hu | exact Wy) (j5 o t cls (by omega) hcx) ?_;rintro _ rfl;(repeat refine eV ?_);have dX := And.intro dX (@hmany);refine cL rfl ⟨rfl, _, rfl⟩ (by omega) (by first | exact Hu | exact Wy) (Ta o t cls m1 (by omega) (by omega) hc) ?_;rintro _ rfl;(repeat refine eV ?_);have dK := @zd;refine aa (hK _ (az [1, 2, 4, 6, 30, 31, 32] ?_));clear hK K;refine Yp 30 [1, 2, 4, 6, 30, 31, 32] rfl rfl (by simp only [ac, pZ, simprocAttr, jay, Wr, U5, U4, Og]; exact rfl) ?_;have hTl := zd cls m1 cls.length;have hTl2 := zd cls m1 N.ends.length;refine ae ?_;refine au (X := Nat) (fun c => c ≤ m1) (fun c => [(32, .c (.p (.int .i64 c)))]) (fun c => [((6, 0), ⟨some 27, [.sl true 48 1 ((quE N cls c).map (esC 50)), .sl true 3 1 (([] : List Int).map iC), .sl true 3 1 ((quI N cls c).map iC)]⟩)]) (fun c => m1 - c) 0 (Nat.zero_le _) (by first | rfl | (simp only [ac, pZ, simprocAttr, Int.natCast_zero] <;> rfl)) ?_;rintro c hc1;intro E hE;simp only [ac, pZ, simprocAttr] at hE;subst hE;have hEl := Va N cls c;have hIl := Ma N cls c;have hEs := Rt N cls c;have hIs := Rs N cls c;obtain ⟨E, hE⟩ : ∃ E, E = quE N cls c := ⟨_, rfl⟩;obtain ⟨I, hI⟩ : ∃ I, I = quI N cls c := ⟨_, rfl⟩;rw [← hE] at hEl hEs ⊢;rw [← hI] at hIl hIs ⊢;refine ab (dR fun K hK => ?_);(repeat refine eV ?_);refine aa (hK _ (wK [1, 2, 4, 6, 30, 31, 32, 33] ?_));clear hK K;refine ab (dI (fun hb => ?_) (fun hb => ?_))
  ·have hcK : c < m1 := by simpa using hb
   have hlg : lg (fbT cls m1 cls.length) c = fbL cls cls.length c := Sh hcK;obtain ⟨r0, r1, r2, r3⟩ := mm (hex c hcK);obtain ⟨u, hu⟩ : ∃ u, u = rpF cls N.ends.length c := ⟨_, rfl⟩;rw [hcl] at hlg;have hFl := Nb cls N.ends.length c;have hqs : qsE N cls c = (gl N.ends u).map fun e => (gi cls e.1.toNat, e.2) := by rw [hu]; rfl
   rw [← hu] at r1 r2 r3 hIs;obtain ⟨F, hF⟩ : ∃ F, F = fbL cls N.ends.length c := ⟨_, rfl⟩;rw [← hF] at hlg r0 r3 hFl;have hF0 : ((F.length : Int) == 0) = false := by rw [beq_eq_false_iff_ne]; omega
   have hui : u < N.inputs.length := by omega
   have hdu := hdg u;refine ah ?_;show DW _ _ _ _ _;refine ab (ae ?_);have dX := And.intro dX (And.intro @Int.toNat_natCast (And.intro @hcl @hlg));refine ab (dR fun K hK => ?_);(repeat refine eV ?_);have dK := And.intro @hcl @hlg;refine aa (hK _ (az [1, 2, 4, 6, 7, 8, 30, 31, 32] ?_));clear hK K;refine ab ?_;have dX := And.intro dX (@hF0);refine ab (dR fun K hK => ?_);(repeat refine eV ?_);have dK := @hF0;refine aa (hK _ (az [1, 2, 4, 6, 7, 8, 30, 31, 32, 39] ?_));clear hK K;refine dI ?_ ?_<;>intro hb
   ·cases hb
   ·refine ah ?_;show DW _ _ _ _ _;refine ab (dR fun K hK => ?_);(repeat refine eV ?_);refine aa (hK _ (wK [1, 2, 4, 6, 7, 8, 30, 31, 32] ?_));clear hK K;refine w6 6 [(0, 0), (E.length, 0)] 50 2 (by decide) (by simp only [ac, pZ, simprocAttr]; exact rfl) Dw [1, 2, 4, 6, 7, 8, 30, 31, 32] (by simp only [ac, pZ, simprocAttr, nz, List.modify_cons, List.modifyHead, vu]; exact rfl) ?_;have dX := And.intro dX (And.intro @quSt10.eq_def (And.intro @r3 (And.intro @Int.toNat_natCast @b8)));refine ab (ec quSt10 (fun j r => match j with | _ => True) fun K hK => ?_);(repeat refine dV ?_);have dK := And.intro @r3 (And.intro @jh (Eq.symm hIs));refine aw (hK _ (az [1, 2, 4, 6, 7, 8, 30, 31, 32] ?_));clear hK K;have dX := And.intro dX (And.intro @quSt11.eq_def (And.intro @r3 (And.intro @Int.toNat_natCast @b8)));refine ab (ec quSt11 (fun j r => match j with | _ => True) fun K hK => ?_);(repeat refine dV ?_);have dK := @r3;refine aw (hK _ (az [1, 2, 4, 6, 7, 30, 31, 32, 64, 65, 66] ?_));clear hK K;have hI1 : (quI N cls (c + 1)).length = c + 1 := Ma _ _ _;have h0 : E ++ [[]] = E ++ [(qsE N cls c).take 0] := by rw [List.take_zero]
    rw [h0];refine ae ?_;refine au (X := Nat) (fun i => i ≤ (gl N.ends u).length) (fun i => [(66, .c (.p (.int .i64 i)))]) (fun i => [((6, 0), ⟨some 27, [.sl true 48 1 ((E ++ [(qsE N cls c).take i]).map (esC 50)), .sl true 3 1 (([] : List Int).map iC), .sl true 3 1 ((quI N cls (c + 1)).map iC)]⟩)]) (fun i => (gl N.ends u).length - i) 0 (Nat.zero_le _) (by first | rfl | (simp only [ac, pZ, simprocAttr, Int.natCast_zero] <;> rfl)) ?_;rintro i hi;intro E hE;simp only [ac, pZ, simprocAttr] at hE;subst hE;have hgl2 : gl (E ++ [(qsE N cls c).take i]) c = (qsE N cls c).take i := by rw [← hEl]; exact Vs _ _
    have hset2 : ∀ X, (E ++ [(qsE N cls c).take i]).set c X = E ++ [X] := fun X => by rw [← hEl]; exact Rb _ _ _
    have hl2 : (E ++ [(qsE N cls c).take i]).length = c + 1 := by rw [List.length_append, hEl]; rfl
    have htl : ((qsE N cls c).take i).length = i := by rw [List.length_take, hqs, List.length_map]; omega
    obtain ⟨E2, hE2⟩ : ∃ E2, E2 = E ++ [(qsE N cls c).take i] := ⟨_, rfl⟩;rw [← hE2] at hgl2 hset2 hl2 ⊢;refine ab (dR fun K hK => ?_);(repeat refine eV ?_);refine aa (hK _ (wK [1, 2, 4, 6, 7, 30, 31, 32, 64, 65, 66, 67] ?_));clear hK K;refine ab (dI (fun hb => ?_) (fun hb => ?_))
    ·have hi1 : i < (gl N.ends u).length := by simpa using hb
     obtain ⟨q1, q2, q3, q4, q5⟩ := ej hs r1 hi1
     have htk : (qsE N cls c).take i ++ [(gi cls (nd N u i), (bk N u i : Int))] = (qsE N cls c).take (i + 1) := by
      rw [List.take_add_one, hqs];simp only [List.getElem?_map, List.getElem?_eq_getElem hi1, Option.map_some, Option.toList];rw [← fy hi1, q5];simp
     refine ah ?_;show DW _ _ _ _ _;refine ab (ae ?_);have dX := And.intro dX (And.intro @Int.toNat_natCast @q5);refine ab (dR fun K hK => ?_);(repeat refine eV ?_);have dK := @q5;refine aa (hK _ (az [1, 2, 4, 6, 7, 10, 30, 31, 32, 64, 65, 66] ?_));clear hK K;have dX := And.intro dX (And.intro @quSt14.eq_def (And.intro @q5 (And.intro @hcl (And.intro @ey (And.intro @nu (And.intro @hl2 (And.intro @hgl2 (And.intro @htl (And.intro @Int.toNat_natCast (And.intro @List.length_append.{0} @List.length_modify.{0}))))))))));refine ec quSt14 (fun j r => match j with | _ => True) fun K hK => ?_;(repeat refine dV ?_);have dK := And.intro @q5 (And.intro @ji (And.intro @j3 (And.intro @htk @hset2)));refine aw (hK _ (az [1, 2, 4, 6, 7, 30, 31, 32, 64, 65, 66] ?_));clear hK K;refine dR fun K hK => ?_;(repeat refine eV ?_);have dK := @bp;refine aa (hK _ ?_);clear hK K;show ∃ x, _ ∧ _ ∧ Weak _ _;refine ⟨i + 1, ?_, ?_, a6 [1, 2, 4, 6, 7, 30, 31, 32, 64, 65, 66]⟩
     ·omega
     ·omega
    ·have hi2 : i = (qsE N cls c).length := by
      have : ¬ i < (gl N.ends u).length := by simpa using hb
      rw [hqs, List.length_map];omega
     have hEf : E2 = quE N cls (c + 1) := by rw [hE2, hEs, hi2, List.take_length]
     rw [hEf];refine an ?_;refine ba [1, 2, 4, 6, 30, 31, 32] (by simp only [ac, pZ, simprocAttr]; exact rfl) ?_;refine dR fun K hK => ?_;(repeat refine eV ?_);have dK := @bp;refine aa (hK _ ?_);clear hK K;show ∃ x, _ ∧ _ ∧ Weak _ _;refine ⟨c + 1, ?_, ?_, a6 [1, 2, 4, 6, 30, 31, 32]⟩
     ·omega
     ·omega
  ·have hc2 : c = m1 := by
    have : ¬ c < m1 := by simpa using hb
    omega
   have hEq : E = (quN N cls m1).ends := by rw [hE, hc2]; rfl
   have hIq : I = (quN N cls m1).inputs := by rw [hI, hc2]; rfl
   have hi0 : ([] : List Int) = (quN N cls m1).ids := rfl;simp only [br, ch, ints, ends] at hqm;rw [hEq, hIq, hi0];refine an ?_;refine ba [1, 2, 4, 6] (by simp only [ac, pZ, simprocAttr]; exact rfl) ?_;refine ab ?_;refine ab (dR fun K hK => ?_);(repeat refine eV ?_);refine cL rfl ⟨rfl, _, rfl⟩ (by omega) (by first | exact jw | exact Wx) (hqn) ?_;rintro _ rfl;(repeat refine eV ?_);(repeat refine eV ?_);refine cgF rfl rfl ⟨rfl, _, rfl⟩ (by omega) (by first | exact jw | exact Wx) (hqm) ?_;rintro _ rfl;(repeat refine eV ?_);(repeat refine eV ?_);refine aa (hK _ (wK [4, 6, 100] ?_));clear hK K;refine dI ?_ ?_<;>intro hb
   ·cases hb
   ·refine ah ?_;show DW _ _ _ _ _;refine ab (dR fun K hK => ?_);(repeat refine eV ?_);have dK := @netO.eq_1;refine aa (hK _ (az [4, 5] ?_));clear hK K;exact aj (am Tryz.results41 (.two (.cell 4 _ _ _ _ rfl rfl ap rfl rfl (ax _)) (.plain _ _ rfl)) (by decide) rfl)
theorem rx (f : NF) (N : Net) (d : Nat) (hg : bb N = true) (hd : IsSd N d) : DCalls Tryz.prog 13 [.agg (br f N)] (fun r => r = [.own true (netO (quN N (cu N d) (cd N d))), .c (.p (.bool true))]) := by
 have hn := dh hg;have hr := jb hg;refine ao Tryz.func13 rfl (by rw [Tryz.ntmps13]; simp) fun w0 => ?_;rw [Tryz.ntmps13];have dX := Tn;simp only [b7, bf, Arg.av, br, ch, ints, ends];refine ab (dR fun K hK => ?_);(repeat refine eV ?_);refine aa (hK _ (wK [1, 2] ?_));clear hK K;refine ab (dR fun K hK => ?_);(repeat refine eV ?_);refine cL rfl ⟨rfl, _, rfl⟩ (by omega) (by first | exact jbd) (C0 ⟨false, f.t1, f.o2, f.t2, false, f.t3, false, f.t4⟩ N d hg hd) ?_;rintro _ rfl;(repeat refine eV ?_);refine aa (hK _ (wK [1, 2, 4, 5] ?_));clear hK K;refine ab ?_;refine ab (dR fun K hK => ?_);(repeat refine eV ?_);refine aa (hK _ (wK [1, 2, 4, 12] ?_));clear hK K;refine dI ?_ ?_<;>intro hb
 ·cases hb
 ·refine ah ?_;show DW _ _ _ _ _;refine ab (dR fun K hK => ?_);(repeat refine eV ?_);refine cL rfl ⟨rfl, _, rfl⟩ (by omega) (by first | exact jbc) (J0 ⟨false, f.t1, f.o2, f.t2, false, f.t3, false, f.t4⟩ N true 3 (cu N d) (cd N d) hg (ei N d) (vl hr.1 d) (tm N d) (ph N d) (fun v hv => kc (by rw [← ei N d]; exact hv)) (fun c hc => qv hd hr hc) (Rq hd hg) (U9 hd hr)) ?_;rintro _ rfl;(repeat refine eV ?_);have dK := @netO.eq_1;refine aa (hK _ (az [2, 3] ?_));clear hK K;exact aj (am Tryz.results13 (.two (.cell 2 _ _ _ _ rfl rfl ap rfl rfl (ax _)) (.plain _ _ rfl)) (by decide) rfl)
end
end Go.Proofs.YtfemnfpbdbbacaaGreat

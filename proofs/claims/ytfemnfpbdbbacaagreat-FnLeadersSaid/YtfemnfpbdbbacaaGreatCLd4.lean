/- The leader by rounds of least identifiers: the program, over data -/
import Derived.Test.YtfemnfpbdbbacaaGreatCJn48
import Derived.Test.YtfemnfpbdbbacaaGreatCDdf
import Derived.Test.YtfemnfpbdbbacaaGreatCJn47
import Derived.Test.YtfemnfpbdbbacaaGreatCJn21
import Derived.Test.YtfemnfpbdbbacaaGreatCJn43
import Derived.Test.YtfemnfpbdbbacaaGreatCJn35
set_option linter.unusedSimpArgs false
set_option linter.unusedVariables false
namespace Go.Proofs.YtfemnfpbdbbacaaGreat
set_option maxHeartbeats 0
set_option maxRecDepth 8000
open Go Go.RowKit
theorem Nt (o : Bool) (t : TypeId) (xs : List Int) (hl : xs.length ≤ 2097152) : DCalls Tryz.prog 23 [.c (.sl o t 1 (xs.map iC))] (fun r => r = [.own false [.sl true 3 1 (xs.map iC)]]) := ne fun w vs h1 h2 => by
 obtain ⟨u, rfl, g1⟩ := yh h1 h2;exact Ep _ xs w (lz g1) hl
theorem om (y : Int) : ∀ l : List Int, (∀ x ∈ l, x = y) → l.foldl min y = y
 | [], _ => rfl
 | z :: l, h => by
  have h1 := h z List.mem_cons_self;rw [List.foldl_cons, h1, Int.min_self];exact om y l fun x hx => h x (List.mem_cons_of_mem _ hx)
theorem Hs {l : List Int} {x : Int} (hl : 0 < l.length) (h : ∀ y ∈ l, y = x) : Lib.minOf l = x := by
 match l, hl with
 | y :: l, _ =>
  have h1 := h y List.mem_cons_self;subst h1;show (y :: l).foldl min y = y;exact om y _ h
theorem Q8 {N : Net} {B : Nat} (hB : ∀ v, (gl N.ends v).length ≤ B) (L : List Int) : ∀ q, q ≤ L.length → sqL N (L.take q) ≤ q * B
 | 0, _ => by simp [sqL]
 | q + 1, h => by
  have ih := Q8 hB L q (by omega);have := hB (gi L q).toNat;rw [Gy (by omega), Nat.add_mul];omega
theorem Uz (N : Net) (A : List Int) : ∀ L : List Int, (rqL N A L).length = A.length := by
 have key : ∀ (L X : List Int), (L.foldl (jav N A) X).length = X.length := by
  intro L
  induction L with
  | nil => intro X; rfl
  | cons x L ih => intro X; rw [List.foldl_cons, ih]; exact qf _ _ _ _
 exact fun L => key L A
def el1St1 : Nat → Stat
 | 0 => ⟨[1], [], [], [5], [], []⟩
 | 1 => ⟨[0], [], [], [6], [], []⟩
 | 2 => ⟨[5, 6], [], [], [7], [], []⟩
 | 3 => ⟨[7], [], [], [8], [], []⟩
 | 4 => ⟨[2], [], [], [9], [], []⟩
 | 5 => ⟨[0], [], [], [10], [], []⟩
 | 6 => ⟨[9, 10], [], [], [11], [], []⟩
 | 7 => ⟨[11], [], [], [12], [], []⟩
 | 8 => ⟨[8, 12], [], [], [13], [], []⟩
 | 9 => ⟨[13], [], [], [4], [], []⟩
 | _ => ⟨[], [], [], [], [], []⟩
def zBLd41 := PLift.up (And.intro ap (And.intro @bt (And.intro bl (And.intro bw (And.intro b6 (And.intro b4 (And.intro a7 (And.intro @if_pos.{1} (And.intro @cg (And.intro @cf (And.intro @bi (And.intro @b8 (And.intro @ce @trivial)))))))))))))
theorem Tm : type_of% zBLd41.down := zBLd41.down
theorem Co (o : Bool) (t : TypeId) (A : List Int) (o2 : Bool) (t2 : TypeId) (B : List Int) (v : Nat) (hA : v < A.length) (hB : v < B.length) : DCalls Tryz.prog 27 [.c (.p (.int .i64 v)), .rp [.sl o t 1 (A.map iC)], .rp [.sl o2 t2 1 (B.map iC)]] (fun r => r = [.c (.p (.bool (gi A v == gi B v)))]) := by
 refine ao Tryz.func27 rfl (by rw [Tryz.ntmps27]; simp) fun w0 => ?_;rw [Tryz.ntmps27];have dX := Tm;simp only [b7, bf, Arg.av, br, ch, ints, ends];refine ab (dR fun K hK => ?_);(repeat refine eV ?_);refine aa (hK _ (wK [0, 1, 2] ?_));clear hK K;have dX := And.intro dX (And.intro @el1St1.eq_def @Int.toNat_natCast);refine ab (ec el1St1 (fun j r => match j with | _ => True) fun K hK => ?_);(repeat refine dV ?_);refine aw (hK _ (wK [4] ?_));clear hK K;exact aj (am Tryz.results27 (.one (.plain _ _ rfl)) (by decide) rfl)
def elSt15 : Nat → Stat
 | 0 => ⟨[10], [(10, 1)], [], [56], [], []⟩
 | 1 => ⟨[15], [(15, 1)], [], [57], [], []⟩
 | 2 => ⟨[57], [(15, 1)], [], [58], [], []⟩
 | 3 => ⟨[10], [(10, 1)], [], [59], [], []⟩
 | 4 => ⟨[15], [(15, 1)], [], [60], [], []⟩
 | 5 => ⟨[60], [(15, 1)], [], [61], [], []⟩
 | 6 => ⟨[59, 61], [(10, 1)], [], [62], [], []⟩
 | 7 => ⟨[62], [(10, 2)], [], [63], [], []⟩
 | 8 => ⟨[6], [(6, 1)], [], [64], [], []⟩
 | 9 => ⟨[13], [], [], [65], [], []⟩
 | 10 => ⟨[64, 65], [(6, 1)], [], [66], [], []⟩
 | 11 => ⟨[66], [(6, 2)], [], [67], [], []⟩
 | 12 => ⟨[63, 67], [], [], [68], [], []⟩
 | 13 => ⟨[56, 58], [(10, 1)], [], [69], [], []⟩
 | 14 => ⟨[69, 68], [(10, 2)], [], [], [(10, 2)], []⟩
 | _ => ⟨[], [], [], [], [], []⟩
theorem Cm (f : NF) (N : Net) (T : Nat) (hg : bb N = true) (hi : N.ids.length = N.ends.length) (hc : em N 0 = true) (hT : T ≤ 41) (hz : sE N (frE N T) N.ends.length = 0) (hlt : ∀ s, s < T → sE N (frE N s) N.ends.length ≠ 0) : DCalls Tryz.prog 6 [.agg (br f N)] (fun r => r = [.c (.p (.int .i64 (gi (knL N T) 0))), .c (.p (.int .i64 T)), .c (.p (.int .i64 (msE N T : Nat))), .c (.p (.bool true))]) := by
 obtain ⟨hs, hn, hids, hdg⟩ := ew hg;have hi0 : ((N.ids.length : Int) == 0) = false := by rw [beq_eq_false_iff_ne]; omega
 have hi1 : ((N.ends.length : Int) == 0) = false := by rw [beq_eq_false_iff_ne]; omega
 have hend := M4 hs hi ((ik hs (show 0 < N.ends.length by omega)).1 hc) (by omega) hz
 have hmin : Lib.minOf (knL N T) = gi (knL N T) 0 := Hs (by rw [jz hi]; omega) fun y hy => by
  obtain ⟨i, hi2, rfl⟩ := List.getElem_of_mem hy;have := hend.1 i (by rw [← jz hi T]; exact hi2);rw [bn hi2] at this;exact this
 have hk0 : knL N 0 = N.ids := rfl;have hf0 : fsL (frE N 0) N.ends.length = du N.ends.length := S7 _;have hm0 : msE N 0 = 0 := rfl;refine ao Tryz.func6 rfl (by rw [Tryz.ntmps6]; simp) fun w0 => ?_;rw [Tryz.ntmps6];have dX := Tm;simp only [b7, bf, Arg.av, br, ch, ints, ends];refine ab (dR fun K hK => ?_);(repeat refine eV ?_);refine aa (hK _ (wK [1] ?_));clear hK K;refine ab ?_;refine ab (dR fun K hK => ?_);(repeat refine eV ?_);refine cL rfl ⟨rfl, _, rfl⟩ (by omega) (by first | exact jw | exact pg) (eg ⟨false, f.t1, f.o2, f.t2, false, f.t3, false, f.t4⟩ N (by omega)) ?_;rintro _ rfl;(repeat refine eV ?_);have dX := And.intro dX (And.intro @hg @hi0);(repeat refine eV ?_);have dX := And.intro dX (And.intro @hg @hi0);refine cgF rfl rfl ⟨rfl, _, rfl⟩ (by omega) (by first | exact jw | exact pg) (fu ⟨false, f.t1, f.o2, f.t2, false, f.t3, false, f.t4⟩ N hg (show 0 < N.ends.length by omega)) ?_;rintro _ rfl;(repeat refine eV ?_);have dX := And.intro dX (And.intro @hg (And.intro @hi0 @hc));(repeat refine eV ?_);have dK := And.intro @hg (And.intro @hi0 @hc);refine aa (hK _ (az [1, 29] ?_));clear hK K;refine dI ?_ ?_<;>intro hb
 ·cases hb
 ·refine ah ?_;show DW _ _ _ _ _;refine ab (dR fun K hK => ?_)
  repeat (apply b0; (focus exact rfl); (focus (simp (disch := first | omega | (intros; contradiction)) only [ac, bd, pZ, simprocAttr, ap, bt, bl, bw, b6, b4, a7, if_pos, cg, cf, bi, b8, ce , x5]; exact rfl)))
  refine eh rfl ⟨rfl, _, rfl⟩ (by omega) (by first | exact x5) (by simp (disch := first | omega | (intros; contradiction)) only [ac, bd, pZ, simprocAttr, ap, bt, bl, bw, b6, b4, a7, if_pos, cg, cf, bi, b8, ce , x5] <;> exact rfl) (Nt false f.t3 N.ids (by omega)) ?_;rintro _ rfl
  repeat (apply b0; (focus exact rfl); (focus (simp (disch := first | omega | (intros; contradiction)) only [ac, bd, pZ, simprocAttr, ap, bt, bl, bw, b6, b4, a7, if_pos, cg, cf, bi, b8, ce , x5]; exact rfl)))
  refine aa (hK _ (wK [1, 6] ?_));clear hK K;have dX := And.intro dX (@hi);refine ab (dR fun K hK => ?_);(repeat refine eV ?_);have dX := And.intro dX (@hi);refine cL rfl ⟨rfl, _, rfl⟩ (by omega) (by first | exact Bf) (xu N.ends.length (by omega)) ?_;rintro _ rfl;(repeat refine eV ?_);refine aa (hK _ (wK [1, 6, 7] ?_));clear hK K;refine ab (dR fun K hK => ?_);(repeat refine eV ?_);refine aa (hK _ (wK [1, 6, 7, 8, 9] ?_));clear hK K;refine ae ?_;refine au (X := Nat) (fun t => t ≤ T) (fun t => [(8, .c (.p (.int .i64 t))), (9, .c (.p (.int .i64 (msE N t : Nat))))]) (fun t => [((6, 0), ⟨some 25, [.sl true 3 1 ((knL N t).map iC)]⟩), ((7, 0), ⟨none, [.sl true 3 1 ((fsL (frE N t) N.ends.length).map iC)]⟩)]) (fun t => T - t) 0 (Nat.zero_le _) (by first | rfl | (simp only [ac, pZ, simprocAttr, Int.natCast_zero, hk0, hf0, hm0] <;> rfl)) ?_;rintro t ht;intro E hE;simp only [ac, pZ, simprocAttr] at hE;subst hE;have hkl := jz hi t;have hkl1 := jz hi (t + 1);have hks : knL N (t + 1) = rqL N (knL N t) (fsL (frE N t) N.ends.length) := by rw [ku, Lz]
  have hms : msE N (t + 1) = msE N t + sqL N (fsL (frE N t) N.ends.length) := by rw [Ex]; rfl
  have hmb := Ke (N := N) (show N.ends.length ≤ 40 by omega) hdg t
  have hsz : sqL N (fsL (frE N t) N.ends.length) = 0 ↔ t = T := by
   rw [Ex];constructor
   ·intro h
    rcases Nat.lt_or_ge t T with h2 | h2
    ·exact absurd h (hlt t h2)
    ·omega
   ·intro h; rw [h]; exact hz
  have hfn := S8 (N := N) N.ends.length t;have hfl := Vv (frE N t) N.ends.length
  have hfm : ∀ q, q < (fsL (frE N t) N.ends.length).length → ∃ v : Nat, gi (fsL (frE N t) N.ends.length) q = (v : Int) ∧ v < N.ends.length := fun q hq => by
   have h1 : gi (fsL (frE N t) N.ends.length) q ∈ fsL (frE N t) N.ends.length := by rw [bn hq]; exact List.getElem_mem hq
   have h2 := Vu.1 h1;exact ⟨(gi (fsL (frE N t) N.ends.length) q).toNat, by omega, by omega⟩
  have hTt : t = T → knL N t = knL N T ∧ msE N t = msE N T := fun h => by rw [h]; exact ⟨rfl, rfl⟩
  obtain ⟨A, hA⟩ : ∃ A, A = knL N t := ⟨_, rfl⟩;obtain ⟨A1, hA1⟩ : ∃ A1, A1 = knL N (t + 1) := ⟨_, rfl⟩;obtain ⟨L, hL⟩ : ∃ L, L = fsL (frE N t) N.ends.length := ⟨_, rfl⟩;obtain ⟨M, hM⟩ : ∃ M, M = msE N t := ⟨_, rfl⟩;rw [← hA] at hkl hks hfn hTt ⊢;rw [← hA1] at hkl1 hks hfn;rw [← hL] at hks hms hsz hfl hfm ⊢;rw [← hM] at hms hmb hTt ⊢;have hr0 : A = rqL N A (L.take 0) := rfl;have hq0 : (0 : Int) = ((sqL N (L.take 0) : Nat) : Int) := rfl;refine ae ?_;refine ab (dR fun K hK => ?_)
  repeat (apply b0; (focus exact rfl); (focus (simp (disch := first | omega | (intros; contradiction)) only [ac, bd, pZ, simprocAttr, ap, bt, bl, bw, b6, b4, a7, if_pos, cg, cf, bi, b8, ce , x5]; exact rfl)))
  refine eh rfl ⟨rfl, _, rfl⟩ (by omega) (by first | exact x5) (by simp (disch := first | omega | (intros; contradiction)) only [ac, bd, pZ, simprocAttr, ap, bt, bl, bw, b6, b4, a7, if_pos, cg, cf, bi, b8, ce , x5] <;> exact rfl) (Nt true 3 A (by omega)) ?_;rintro _ rfl
  repeat (apply b0; (focus exact rfl); (focus (simp (disch := first | omega | (intros; contradiction)) only [ac, bd, pZ, simprocAttr, ap, bt, bl, bw, b6, b4, a7, if_pos, cg, cf, bi, b8, ce , x5]; exact rfl)))
  refine aa (hK _ (wK [1, 6, 7, 8, 9, 10] ?_));clear hK K;refine ab (dR fun K hK => ?_);(repeat refine eV ?_);refine aa (hK _ (wK [1, 6, 7, 8, 9, 10, 11] ?_));clear hK K;refine ab ?_;refine ab (dR fun K hK => ?_);(repeat refine eV ?_);refine aa (hK _ (wK [1, 6, 7, 8, 9, 10, 11, 38, 39, 40] ?_));clear hK K;refine ae ?_;refine au (X := Nat) (fun q => q ≤ L.length) (fun q => [(11, .c (.p (.int .i64 (sqL N (L.take q) : Nat)))), (40, .c (.p (.int .i64 q)))]) (fun q => [((10, 0), ⟨some 25, [.sl true 3 1 ((rqL N A (L.take q)).map iC)]⟩)]) (fun q => L.length - q) 0 (Nat.zero_le _) (by first | rfl | (simp only [ac, pZ, simprocAttr, Int.natCast_zero] <;> rfl)) ?_;rintro q hq;intro E hE;simp only [ac, pZ, simprocAttr] at hE;subst hE;have hqb := Q8 hdg L q hq;have hrl := Uz N A (L.take q);obtain ⟨S0, hS0⟩ : ∃ S0, S0 = sqL N (L.take q) := ⟨_, rfl⟩;obtain ⟨X0, hX0⟩ : ∃ X0, X0 = rqL N A (L.take q) := ⟨_, rfl⟩;rw [← hS0] at hqb ⊢;rw [← hX0] at hrl ⊢;refine ab (dR fun K hK => ?_);(repeat refine eV ?_);refine aa (hK _ (wK [1, 6, 7, 8, 9, 10, 11, 38, 39, 40, 41] ?_));clear hK K;refine ab (dI (fun hb => ?_) (fun hb => ?_))
  ·have hq1 : q < L.length := by simpa using hb
   obtain ⟨v, hv, hvn⟩ := hfm q hq1;have hrt := Rg (N := N) (K := A) hq1;have hst := Gy (N := N) hq1;rw [hv, Int.toNat_natCast, ← hX0] at hrt;rw [hv, Int.toNat_natCast, ← hS0] at hst;have hdv := hdg v;have hX00 : X0 = rlx N (gi A v) v 0 X0 := rfl;have hS00 : ((S0 : Nat) : Int) = ((S0 + 0 : Nat) : Int) := rfl;refine ah ?_;show DW _ _ _ _ _;refine ab (ae ?_);refine ab (dR fun K hK => ?_);(repeat refine eV ?_);have dK := @hv;refine aa (hK _ (az [1, 6, 7, 8, 9, 10, 11, 13, 38, 39, 40] ?_));clear hK K;have dX := And.intro dX (@Int.toNat_natCast);refine ab (dR fun K hK => ?_);(repeat refine eV ?_);refine aa (hK _ (wK [1, 6, 7, 8, 9, 10, 11, 13, 38, 39, 40, 48, 49, 50] ?_));clear hK K;refine ae ?_;refine au (X := Nat) (fun j => j ≤ (gl N.ends v).length) (fun j => [(11, .c (.p (.int .i64 (S0 + j : Nat)))), (50, .c (.p (.int .i64 j)))]) (fun j => [((10, 0), ⟨some 25, [.sl true 3 1 ((rlx N (gi A v) v j X0).map iC)]⟩)]) (fun j => (gl N.ends v).length - j) 0 (Nat.zero_le _) (by first | rfl | (simp only [ac, pZ, simprocAttr, Int.natCast_zero] <;> rfl)) ?_;rintro j hj;intro E hE;simp only [ac, pZ, simprocAttr] at hE;subst hE;have hXl := qf (N := N) (gi A v) v j X0;have hXs : rlx N (gi A v) v (j + 1) X0 = (rlx N (gi A v) v j X0).set (nd N v j) (mnI (gi (rlx N (gi A v) v j X0) (nd N v j)) (gi A v)) := rfl;obtain ⟨X, hX⟩ : ∃ X, X = rlx N (gi A v) v j X0 := ⟨_, rfl⟩;rw [← hX] at hXl hXs ⊢;refine ab (dR fun K hK => ?_);(repeat refine eV ?_);refine aa (hK _ (wK [1, 6, 7, 8, 9, 10, 11, 13, 38, 39, 40, 48, 49, 50, 51] ?_));clear hK K;refine ab (dI (fun hb => ?_) (fun hb => ?_))
   ·have hj1 : j < (gl N.ends v).length := by simpa using hb
    obtain ⟨q1, q2, q3, q4, q5⟩ := ej hs hvn hj1;have hmi : min (gi X (nd N v j)) (gi A v) = mnI (gi X (nd N v j)) (gi A v) := Vk _ _;refine ah ?_;show DW _ _ _ _ _;refine ab (ae ?_);have dX := And.intro dX (@Int.toNat_natCast);refine ab (dR fun K hK => ?_);(repeat refine eV ?_);have dK := @q5;refine aa (hK _ (az [1, 6, 7, 8, 9, 10, 11, 13, 15, 38, 39, 40, 48, 49, 50] ?_));clear hK K;refine ab (dR fun K hK => ?_);(repeat refine eV ?_);have dK := @bp;refine aa (hK _ (az [1, 6, 7, 8, 9, 10, 11, 13, 15, 38, 39, 40, 48, 49, 50] ?_));clear hK K;have dX := And.intro dX (And.intro @elSt15.eq_def (And.intro @q5 (And.intro @hXl (And.intro @hmi @Int.toNat_natCast))));refine ec elSt15 (fun j r => match j with | _ => True) fun K hK => ?_;(repeat refine dV ?_);have dK := And.intro @q5 (And.intro @hmi (And.intro @se (Eq.symm hXs)));refine aw (hK _ (az [1, 6, 7, 8, 9, 10, 11, 13, 38, 39, 40, 48, 49, 50] ?_));clear hK K;refine dR fun K hK => ?_;(repeat refine eV ?_);have dK := @bp;refine aa (hK _ ?_);clear hK K;show ∃ x, _ ∧ _ ∧ Weak _ _;refine ⟨j + 1, ?_, ?_, a6 [1, 6, 7, 8, 9, 10, 11, 13, 38, 39, 40, 48, 49, 50]⟩
    ·omega
    ·omega
   ·have hj2 : j = (gl N.ends v).length := by
     have : ¬ j < (gl N.ends v).length := by simpa using hb
     omega
    have hXe : X = rqL N A (L.take (q + 1)) := by rw [hX, hrt, hj2]
    have hSe : S0 + j = sqL N (L.take (q + 1)) := by rw [hst, hj2]
    rw [hXe, hSe];refine an ?_;refine ba [1, 6, 7, 8, 9, 10, 11, 38, 39, 40] (by simp only [ac, pZ, simprocAttr]; exact rfl) ?_;refine dR fun K hK => ?_;(repeat refine eV ?_);have dK := @bp;refine aa (hK _ ?_);clear hK K;show ∃ x, _ ∧ _ ∧ Weak _ _;refine ⟨q + 1, ?_, ?_, a6 [1, 6, 7, 8, 9, 10, 11, 38, 39, 40]⟩
    ·omega
    ·omega
  ·have hq2 : q = L.length := by
    have : ¬ q < L.length := by simpa using hb
    omega
   have hXe : X0 = A1 := by rw [hX0, hks, hq2, List.take_length]
   have hSe : S0 = sqL N L := by rw [hS0, hq2, List.take_length]
   rw [hXe];rw [← hSe] at hms hsz;refine an ?_;refine ba [1, 6, 8, 9, 10, 11] (by simp only [ac, pZ, simprocAttr]; exact rfl) ?_
   by_cases htT : t = T
   ·have hS1 : ((S0 : Int) == 0) = true := by rw [beq_iff_eq]; have := hsz.2 htT; omega
    obtain ⟨e1, e2⟩ := hTt htT;rw [← e1] at hmin;refine ab ?_;have dX := And.intro dX (@hS1);refine ab (dR fun K hK => ?_);(repeat refine eV ?_);have dK := @hS1;refine aa (hK _ (az [1, 6, 8, 9, 10, 11, 73] ?_));clear hK K;refine dI ?_ ?_<;>intro hb
    ·refine ab (dR fun K hK => ?_)
     repeat (apply b0; (focus exact rfl); (focus (simp (disch := first | omega | (intros; contradiction)) only [ac, bd, pZ, simprocAttr, ap, bt, bl, bw, b6, b4, a7, if_pos, cg, cf, bi, b8, ce , Mv]; exact rfl)))
     refine eh rfl ⟨rfl, _, rfl⟩ (by omega) (by first | exact Mv) (by simp (disch := first | omega | (intros; contradiction)) only [ac, bd, pZ, simprocAttr, ap, bt, bl, bw, b6, b4, a7, if_pos, cg, cf, bi, b8, ce , Mv] <;> exact rfl) (jbx true 3 A (by omega)) ?_;rintro _ rfl
     repeat (apply b0; (focus exact rfl); (focus (simp (disch := first | omega | (intros; contradiction)) only [ac, bd, pZ, simprocAttr, ap, bt, bl, bw, b6, b4, a7, if_pos, cg, cf, bi, b8, ce , Mv]; exact rfl)))
     have dK := @hmin;refine aa (hK _ (az [2, 3, 4, 5] ?_));clear hK K;exact aj (am Tryz.results6 (.four (.plain _ _ rfl) (.plain _ _ rfl) (.plain _ _ rfl) (.plain _ _ rfl)) (by decide) (by rw [e1, e2, htT]))
    ·cases hb
   ·have hS1 : ((S0 : Int) == 0) = false := by
     rw [beq_eq_false_iff_ne];intro h;exact htT (hsz.1 (by omega))
    have hclo : ∀ j, j < (du N.ends.length).length → DCalls Tryz.prog 27 ([.c (.p (.int .i64 (gi (du N.ends.length) j)))] ++ [[C.sl true 3 1 (A1.map iC)], [C.sl true 3 1 (A.map iC)]].map .rp) (fun r => r = [.c (.p (.bool ((fun x : Int => gi A1 x.toNat == gi A x.toNat) (gi (du N.ends.length) j))))]) := fun j hj => by
     rw [db] at hj;have he : gi (du N.ends.length) j = (j : Int) := by simp [gi, du, hj]
     rw [he];exact Co true 3 A1 true 3 A j (by omega) (by omega)
    have htT2 : t < T := by omega
    have hms2 : ((M : Int) + (S0 : Int)) = ((msE N (t + 1) : Nat) : Int) := by omega
    refine ab ?_;have dX := And.intro dX (@hS1);refine ab (dR fun K hK => ?_);(repeat refine eV ?_);have dK := @hS1;refine aa (hK _ (az [1, 6, 8, 9, 10, 11, 73] ?_));clear hK K;refine dI ?_ ?_<;>intro hb
    ·cases hb
    ·refine ah ?_;show DW _ _ _ _ _;refine ab (dR fun K hK => ?_);(repeat refine eV ?_);have dK := And.intro @bp @hms2;refine aa (hK _ (az [1, 6, 8, 9, 10] ?_));clear hK K;refine ab (dR fun K hK => ?_)
     repeat (apply b0; (focus exact rfl); (focus (simp (disch := first | omega | (intros; contradiction)) only [ac, bd, pZ, simprocAttr, ap, bt, bl, bw, b6, b4, a7, if_pos, cg, cf, bi, b8, ce , Bf, Dt, hkl]; exact rfl)))
     refine eh rfl ⟨rfl, _, rfl⟩ (by omega) (by first | exact Bf | exact Dt) (by simp (disch := first | omega | (intros; contradiction)) only [ac, bd, pZ, simprocAttr, ap, bt, bl, bw, b6, b4, a7, if_pos, cg, cf, bi, b8, ce , Bf, Dt, hkl] <;> exact rfl) (xu N.ends.length (by omega)) ?_;rintro _ rfl
     repeat (apply b0; (focus exact rfl); (focus (simp (disch := first | omega | (intros; contradiction)) only [ac, bd, pZ, simprocAttr, ap, bt, bl, bw, b6, b4, a7, if_pos, cg, cf, bi, b8, ce , Bf, Dt, hkl]; exact rfl)))
     refine gmF (hag := fun _ => rfl) rfl ⟨rfl, _, rfl⟩ (by omega) (by first | exact Bf | exact Dt) (Gc (du N.ends.length) 27 _ (fun x => gi A1 x.toNat == gi A x.toNat) (by rw [db]; omega) jbg hclo) ?_;rintro _ rfl;refine Pn ?_
     repeat (apply b0; (focus exact rfl); (focus (simp (disch := first | omega | (intros; contradiction)) only [ac, bd, pZ, simprocAttr, ap, bt, bl, bw, b6, b4, a7, if_pos, cg, cf, bi, b8, ce , Bf, Dt, hkl]; exact rfl)))
     have dK := @hfn;refine aa (hK _ (az [1, 6, 7, 8, 9, 10] ?_));clear hK K;rw [hA1];refine dR fun K hK => ?_;(repeat refine eV ?_);have dK := @bp;refine aa (hK _ ?_);clear hK K;show ∃ x, _ ∧ _ ∧ Weak _ _;refine ⟨t + 1, ?_, ?_, a6 [1, 6, 7, 8, 9]⟩
     ·omega
     ·omega
end Go.Proofs.YtfemnfpbdbbacaaGreat
